/- Spc Sort Space Space2 Space3 Space4. -/
import Derived.Test.YtfepdmpplahloaaGreatGsClass
import Derived.Test.YtfepdmpplahloaaGreatGsLay
set_option linter.unusedSimpArgs false
set_option linter.unusedVariables false
namespace Go.Gl
open Go
section
variable{α:Type}
theorem mc{k:Int}{a:α}:∀{l:List (Int×α)},(l.map (·.1)).Nodup→(di k l=some a↔(k,a)∈l)
 |[],_=>by simp[di]
 |x::l,hn=>by
  simp only[List.map_cons,List.nodup_cons]at hn
  unfold di
  by_cases hx:x.1=k
  ·rw[if_pos hx]
   constructor
   ·intro h;injection h with h;subst hx;subst h;exact List.mem_cons_self
   ·intro h
    rcases List.mem_cons.mp h with h|h
    ·rw[←h]
    ·exact absurd (by rw[hx];exact List.mem_map_of_mem (f:=(·.1)) h) hn.1
  ·rw[if_neg hx,mc hn.2]
   constructor
   ·exact List.mem_cons_of_mem _
   ·intro h
    rcases List.mem_cons.mp h with h|h
    ·exact absurd (by rw[←h]) hx
    ·exact h
theorem qB{k:Int}:∀{l:List (Int×α)},di k l=none↔∀a,(k,a)∉l
 |[]=>by simp[di]
 |x::l=>by
  unfold di
  by_cases hx:x.1=k
  ·rw[if_pos hx]
   simp only[reduceCtorEq,false_iff]
   intro h;exact h x.2 (by rw[←hx];exact List.mem_cons_self)
  ·rw[if_neg hx,qB]
   constructor
   ·intro h a ha
    rcases List.mem_cons.mp ha with ha|ha
    ·exact hx (by rw[←ha])
    ·exact h a ha
   ·exact fun h a ha=>h a (List.mem_cons_of_mem _ ha)
theorem iB{k i:Int}{a b:α}:∀{l:List (Int×α)},(l.map (·.1)).Nodup→((i,b)∈gq k a l↔(i=k∧b=a)∨(i≠k∧(i,b)∈l))
 |[],_=>by simp[gq]
 |x::l,hn=>by
  simp only[List.map_cons,List.nodup_cons]at hn
  unfold gq
  by_cases hx:x.1=k
  ·rw[if_pos hx]
   simp only[List.mem_cons,Prod.mk.injEq]
   constructor
   ·rintro(h|h)
    ·exact .inl h
    ·refine .inr ⟨?_,.inr h⟩
     rintro rfl
     exact hn.1 (by rw[hx];exact List.mem_map_of_mem (f:=(·.1)) h)
   ·rintro(h|⟨h1,h|h⟩)
    ·exact .inl h
    ·exact absurd (by rw[←hx,←h]) h1
    ·exact .inr h
  ·rw[if_neg hx,List.mem_cons,iB hn.2,List.mem_cons]
   constructor
   ·rintro(h|h|h)
    ·refine .inr ⟨?_,.inl h⟩
     rintro rfl;exact hx (by rw[←h])
    ·exact .inl h
    ·exact .inr ⟨h.1,.inr h.2⟩
   ·rintro(h|⟨h1,h|h⟩)
    ·exact .inr (.inl h)
    ·exact .inl h
    ·exact .inr (.inr ⟨h1,h⟩)
theorem mT{k i:Int}{b:α}:∀{l:List (Int×α)},(l.map (·.1)).Nodup→((i,b)∈ir k l↔i≠k∧(i,b)∈l)
 |[],_=>by simp[ir]
 |x::l,hn=>by
  simp only[List.map_cons,List.nodup_cons]at hn
  unfold ir
  by_cases hx:x.1=k
  ·rw[if_pos hx]
   constructor
   ·intro h
    refine⟨?_,List.mem_cons_of_mem _ h⟩
    rintro rfl
    exact hn.1 (by rw[hx];exact List.mem_map_of_mem (f:=(·.1)) h)
   ·rintro⟨h1,h⟩
    rcases List.mem_cons.mp h with h|h
    ·exact absurd (by rw[←hx,←h]) h1
    ·exact h
  ·rw[if_neg hx,List.mem_cons,mT hn.2,List.mem_cons]
   constructor
   ·rintro(h|h)
    ·refine⟨?_,.inl h⟩
     rintro rfl;exact hx (by rw[←h])
    ·exact⟨h.1,.inr h.2⟩
   ·rintro⟨h1,h|h⟩
    ·exact .inl h
    ·exact .inr ⟨h1,h⟩
theorem gP{k:Int}{a:α}:∀{l:List (Int×α)},di k l=some a→∃l1 l2,l=l1++(k,a)::l2∧(∀a',gq k a' l=l1++(k,a')::l2)∧ir k l=l1++l2
 |[],h=>by cases h
 |x::l,h=>by
  unfold di at h
  by_cases hx:x.1=k
  ·rw[if_pos hx]at h
   injection h with h
   refine⟨[],l,by rw[←hx,←h];rfl,fun a'=>by simp[gq,hx],by simp[ir,hx]⟩
  ·rw[if_neg hx]at h
   obtain⟨l1,l2,h1,h2,h3⟩:=gP h
   exact⟨x::l1,l2,by rw[h1];rfl,fun a'=>by simp[gq,hx,h2 a'],by simp[ir,hx,h3]⟩
theorem tH{k:Int}{a:α}:∀{l:List (Int×α)},di k l=none→gq k a l=l++[(k,a)]
 |[],_=>rfl
 |x::l,h=>by
  unfold di at h
  by_cases hx:x.1=k
  ·rw[if_pos hx]at h;cases h
  ·rw[if_neg hx]at h
   simp[gq,hx,tH h]
end
variable{ρ0 ρ:FR}{L L':List aA}{Post:Value→List aA→Prop}
theorem Tr.keys{α:Type}{b:Nat}{f:α→Value}{l:List (Int×α)}{T:Tree}(t:Take L (IM b f l) L')(h:(l.map (·.1)).Nodup→Tr ρ0 ρ L T Post):Tr ρ0 ρ L T Post:=fun hle w hw=>by
 obtain⟨es,clock,he,_⟩:=(hw.perm t.perm).im
 exact h he.keys hle w hw
theorem IM.ghost{α β:Type}{b:Nat}{f:α→Value}{g:β→Value}{l:List (Int×α)}{l':List (Int×β)}(h:l.map (fun x=>(x.1,f x.2))=l'.map fun x=>(x.1,g x.2))(hp:HP)(H:IM b f l hp):IM b g l' hp:=by
 obtain⟨es,clock,⟨h1,h2,h3,h4⟩,hm⟩:=H
 refine⟨es,clock,⟨?_,h2,h3,?_⟩,hm⟩
 ·have:=congrArg (List.map fun x:Int×Value=>(Value.int .i64 x.1,x.2)) h
  simp only[List.map_map]at this
  rw[h1];exact this
 ·have:=congrArg (List.map fun x:Int×Value=>x.1) h
  simp only[List.map_map]at this
  have e:l.map (·.1)=l'.map (·.1):=this
  rw[←e];exact h4
end Go.Gl
namespace Go.Proofs.YtfepdmpplahloaaGreat
open Go Go.Gl
inductive Pg|res|free|small (c:Nat) (l:List Bool)|head (k:Nat)|tail
 deriving DecidableEq
def Pg.taken:Pg→Bool| .free=>false|_=>true
structure aD where
 ws:List Int
 pg:List Pg
structure Wf(S:aD):Prop where
 len:S.ws.length=64*S.pg.length
 gv:S.pg.length≤256
 pos:1≤S.pg.length
 res:∀i:Nat,S.pg[i]? =some .res↔i=0
 small:∀(i c:Nat) (l:List Bool),S.pg[i]? =some (.small c l)→c<5∧l.length=64/Sp.sz c
 head:∀i k:Nat,S.pg[i]? =some (.head k)→1≤k∧k≤16∧i+k≤S.pg.length∧∀j:Nat,i<j→j<i+k→S.pg[j]? =some .tail
 tail:∀j:Nat,S.pg[j]? =some .tail→∃i k:Nat,S.pg[i]? =some (.head k)∧i<j∧j<i+k
def Sp.own(pg:List Pg)(p:Nat):Option (Nat×Nat):=(List.range pg.length).findSome? fun(j:Nat)=>match pg[j]? with |some (Pg.head k)=>if j≤p∧p<j+k then some (j,k)else none|_=>none
theorem Sp.p5{pg:List Pg}{p j k:Nat}(h:Sp.own pg p=some (j,k)):pg[j]? =some (.head k)∧j≤p∧p<j+k:=by
 unfold Sp.own at h
 obtain⟨i,_,hi⟩:=List.exists_of_findSome?_eq_some h
 split at hi
 ·rename_i k' hk
  split at hi
  ·rename_i hc
   injection hi with hi
   injection hi with h1 h2
   subst h1;subst h2
   exact⟨hk,hc⟩
  ·cases hi
 ·cases hi
theorem Wf.uniq{S:aD}(h:Wf S){i k i' k' p:Nat}(h1:S.pg[i]? =some (.head k))(h2:S.pg[i']? =some (.head k'))(g1:i≤p∧p<i+k)(g2:i'≤p∧p<i'+k'):i=i'∧k=k':=by
 have e:i=i':=by
  rcases Nat.lt_trichotomy i i' with c|c|c
  ·have:=(h.head i k h1).2.2.2 i' c (by omega)
   rw[h2]at this;cases this
  ·exact c
  ·have:=(h.head i' k' h2).2.2.2 i c (by omega)
   rw[h1]at this;cases this
 subst e
 rw[h1]at h2
 injection h2 with h2
 injection h2 with h2
 exact⟨rfl,h2⟩
theorem aV{α:Type}{l:List α}{i:Nat}{x:α}(h:l[i]? =some x):i<l.length:=by
 rcases Nat.lt_or_ge i l.length with c|c
 ·exact c
 ·rw[List.getElem?_eq_none c]at h;cases h
theorem Sp.nA{S:aD}(hw:Wf S){p j k:Nat}(h:S.pg[j]? =some (.head k))(hp:j≤p∧p<j+k):Sp.own S.pg p=some (j,k):=by
 cases hn:Sp.own S.pg p with
 |none=>
  unfold Sp.own at hn
  rw[List.findSome?_eq_none_iff]at hn
  have:=hn j (by simp[aV h])
  rw[h]at this
  simp[hp]at this
 |some x=>
  obtain⟨h1,h2⟩:=Sp.p5 (j:=x.1) (k:=x.2) hn
  obtain⟨e1,e2⟩:=hw.uniq h h1 hp h2
  rw[e1,e2]
theorem Sp.sb{pg:List Pg}{p:Nat}(h:∀j k:Nat,pg[j]? =some (.head k)→¬(j≤p∧p<j+k)):Sp.own pg p=none:=by
 cases hn:Sp.own pg p with
 |none=>rfl
 |some x=>have:=Sp.p5 (j:=x.1) (k:=x.2) hn;exact absurd this.2 (h _ _ this.1)
def Sp.find(S:aD)(a:Int):Option (Nat×Nat):=
 if 0≤a∧a<S.ws.length then
  match S.pg[a.toNat/64]? with
  |some (.small c l)=>if l.getD (a.toNat%64/Sp.sz c) false then some (a.toNat/64*64+a.toNat%64/Sp.sz c*Sp.sz c,Sp.sz c)else none
  |_=>(Sp.own S.pg (a.toNat/64)).map fun x=>(x.1*64,x.2*64)
 else none
def Sp.iW(pg:List Pg)(c:Nat):Option Nat:=(List.range pg.length).find? fun(p:Nat)=>match pg[p]? with |some (Pg.small c' l)=>c'==c&& !decide (l.count true=l.length)|_=>false
def Sp.kD(pg:List Pg)(p k:Nat):List Pg:=pg.mapIdx fun j x=>if j=p then .head k else if p<j∧j<p+k then .tail else x
def Sp.fQ(pg:List Pg)(p k:Nat):List Pg:=pg.mapIdx fun j x=>if p≤j∧j<p+k then .free else x
def Sp.cw(pg:List Pg)(p c:Nat)(l:List Bool):Int×Int×List Pg:=
 ((p*64+(Sp.next l 0 false).toNat*Sp.sz c:Nat),0,pg.set p (.small c (l.set (Sp.next l 0 false).toNat true)))
def Sp.blocks(pg:List Pg)(p:Nat):List Bool:=match pg[p]? with |some (Pg.small _ l)=>l|_=>[]
def Sp.place(pg:List Pg)(w:Int):Int×Int×List Pg:=
 if Sp.cls w<0 then
  match Sp.run (pg.map Pg.taken) (Sp.jL w).toNat with
  |some p=>((p*64:Nat),0,Sp.kD pg p (Sp.jL w).toNat)
  |none=>(0,3,pg)
 else
  match Sp.iW pg (Sp.cls w).toNat with
  |some p=>Sp.cw pg p (Sp.cls w).toNat (Sp.blocks pg p)
  |none=>(match Sp.run (pg.map Pg.taken) 1 with
   |some p=>Sp.cw pg p (Sp.cls w).toNat (List.replicate (64/Sp.sz (Sp.cls w).toNat) false)
   |none=>(0,3,pg))
def Sp.alloc(S:aD)(w:Int):Int×Int×aD:=
 if Sp.aw w=0 then(0,1,S)
 else if(Sp.place S.pg w).2.1=0 then((Sp.place S.pg w).1,0,⟨Sp.eJ S.ws (Sp.place S.pg w).1.toNat (Sp.aw w).toNat,(Sp.place S.pg w).2.2⟩)
 else(0,(Sp.place S.pg w).2.1,S)
def Sp.cJ(S:aD)(a:Int):Int×aD:=
 match Sp.find S a with
 |some (s,_)=>if(s:Int)=a then
   (match S.pg[a.toNat/64]? with
    |some (.small c l)=>(0,⟨S.ws,S.pg.set (a.toNat/64) (if(l.set (a.toNat%64/Sp.sz c) false).count true=0 then .free else .small c (l.set (a.toNat%64/Sp.sz c) false))⟩)
    |some (.head k)=>(0,⟨S.ws,Sp.fQ S.pg (a.toNat/64) k⟩)
    |_=>(0,S))
  else(2,S)
 |none=>(2,S)
def Sp.gU(p:Nat):Pg→List Int
 | .small c l=>(List.range l.length).filterMap fun i=>if l.getD i false then some ((p*64+i*Sp.sz c:Nat):Int)else none
 | .head _=>[((p*64:Nat):Int)]
 |_=>[]
def Sp.each(S:aD):List Int:=(List.range S.pg.length).flatMap fun p=>Sp.gU p (S.pg.getD p .free)
theorem Sp.dy{S:aD}{n c:Nat}{l:List Bool}(h0:n<S.ws.length)(hp:S.pg[n/64]? =some (.small c l)):
  Sp.find S n=if l.getD (n%64/Sp.sz c) false then some (n/64*64+n%64/Sp.sz c*Sp.sz c,Sp.sz c)else none:=by
 unfold Sp.find
 rw[if_pos ⟨by omega,by omega⟩,Int.toNat_natCast,hp]
theorem Sp.cO{S:aD}{n:Nat}(h0:n<S.ws.length)(hp:∀c l,S.pg[n/64]? ≠some (.small c l)):Sp.find S n=(Sp.own S.pg (n/64)).map fun x=>(x.1*64,x.2*64):=by
 unfold Sp.find
 rw[if_pos ⟨by omega,by omega⟩,Int.toNat_natCast]
 split
 ·rename_i c l h;exact absurd h (hp c l)
 ·rfl
theorem Sp.dA{S:aD}{a:Int}(h:¬(0≤a∧a<S.ws.length)):Sp.find S a=none:=by
 unfold Sp.find
 rw[if_neg h]
abbrev oO:=Nat×Nat×List Bool
def cx(pg:List Pg)(ls:List (Int×oO)):Prop:=∀(i:Int) (c:Nat) (l:List Bool),(∃q,(i,q,c,l)∈ls)↔(0≤i∧pg[i.toNat]? =some (.small c l))
def cG(pg:List Pg)(ll:List (Int×Nat)):Prop:=∀(i:Int) (k:Nat),(i,k)∈ll↔(0≤i∧pg[i.toNat]? =some (.head k))
def fS(x:oO):Value:= .pointer (some ⟨x.1,0,none⟩)
def fL(k:Nat):Value:=i64 k
theorem cx.get{pg:List Pg}{ls:List (Int×oO)}(h:cx pg ls)(hn:(ls.map (·.1)).Nodup){p c:Nat}{l:List Bool}(hp:pg[p]? =some (.small c l)):∃q,di (p:Int) ls=some (q,c,l):=by
 obtain⟨q,hq⟩:=(h p c l).mpr ⟨by omega,by simpa using hp⟩
 exact⟨q,(mc hn).mpr hq⟩
theorem cx.none{pg:List Pg}{ls:List (Int×oO)}(h:cx pg ls){p:Nat}(hp:∀c l,pg[p]? ≠some (.small c l)):di (p:Int) ls=none:=by
 rw[qB]
 rintro⟨q,c,l⟩ hm
 have:=((h p c l).mp ⟨q,hm⟩).2
 exact hp c l (by simpa using this)
theorem cG.get{pg:List Pg}{ll:List (Int×Nat)}(h:cG pg ll)(hn:(ll.map (·.1)).Nodup){p k:Nat}(hp:pg[p]? =some (.head k)):di (p:Int) ll=some k:=
 (mc hn).mpr ((h p k).mpr ⟨by omega,by simpa using hp⟩)
theorem cx.set{pg:List Pg}{ls:List (Int×oO)}(h:cx pg ls)(hn:(ls.map (·.1)).Nodup){p c q:Nat}{l:List Bool}(hp:p<pg.length):cx (pg.set p (.small c l)) (gq (p:Int) (q,c,l) ls):=by
 intro i c' l'
 by_cases hi:i=p
 ·subst hi
  simp only[Int.toNat_natCast,List.getElem?_set,hp]
  constructor
  ·rintro⟨q',hq⟩
   rw[iB hn]at hq
   rcases hq with ⟨_,hq⟩|⟨hq,_⟩
   ·injection hq with h1 h2;injection h2 with h2 h3
    exact⟨by omega,by simp[h2,h3]⟩
   ·exact absurd rfl hq
  ·rintro⟨_,hq⟩
   simp at hq
   exact⟨q,(iB hn).mpr (.inl ⟨rfl,by rw[hq.1,hq.2]⟩)⟩
 ·have:(∃q',(i,q',c',l')∈gq (p:Int) (q,c,l) ls)↔∃q',(i,q',c',l')∈ls:=by
   constructor
   ·rintro⟨q',hq⟩
    rw[iB hn]at hq
    rcases hq with ⟨hq,_⟩|⟨_,hq⟩
    ·exact absurd hq hi
    ·exact⟨q',hq⟩
   ·rintro⟨q',hq⟩
    exact⟨q',(iB hn).mpr (.inr ⟨hi,hq⟩)⟩
  rw[this,h i c' l']
  constructor
  ·rintro⟨h0,h1⟩
   exact⟨h0,by rw[List.getElem?_set_ne (by omega)];exact h1⟩
  ·rintro⟨h0,h1⟩
   exact⟨h0,by rw[List.getElem?_set_ne (by omega)]at h1;exact h1⟩
theorem cx.del{pg:List Pg}{ls:List (Int×oO)}(h:cx pg ls)(hn:(ls.map (·.1)).Nodup){p:Nat}{x:Pg}(hx:∀c l,x≠.small c l):cx (pg.set p x) (ir (p:Int) ls):=by
 intro i c' l'
 have:(∃q',(i,q',c',l')∈ir (p:Int) ls)↔i≠p∧∃q',(i,q',c',l')∈ls:=by
  constructor
  ·rintro⟨q',hq⟩;rw[mT hn]at hq;exact⟨hq.1,q',hq.2⟩
  ·rintro⟨h1,q',hq⟩;exact⟨q',(mT hn).mpr ⟨h1,hq⟩⟩
 rw[this,h i c' l']
 by_cases hi:i=p
 ·subst hi
  simp only[ne_eq,not_true_eq_false,false_and,false_iff,Int.toNat_natCast,List.getElem?_set]
  rintro⟨_,h1⟩
  simp at h1
  exact hx _ _ h1.2
 ·constructor
  ·rintro⟨_,h0,h1⟩;exact⟨h0,by rw[List.getElem?_set_ne (by omega)];exact h1⟩
  ·rintro⟨h0,h1⟩;exact⟨hi,h0,by rw[List.getElem?_set_ne (by omega)]at h1;exact h1⟩
theorem cx.same{pg pg':List Pg}{ls:List (Int×oO)}(h:cx pg ls)(e:∀(j:Nat) c l,pg[j]? =some (.small c l)↔pg'[j]? =some (.small c l)):cx pg' ls:=fun i c l=>by rw[h i c l,e]
theorem cG.same{pg pg':List Pg}{ll:List (Int×Nat)}(h:cG pg ll)(e:∀(j:Nat) k,pg[j]? =some (.head k)↔pg'[j]? =some (.head k)):cG pg' ll:=fun i k=>by rw[h i k,e]
theorem cG.set{pg pg':List Pg}{ll:List (Int×Nat)}(h:cG pg ll)(hn:(ll.map (·.1)).Nodup){p k:Nat}(hp:pg'[p]? =some (.head k))(e:∀(j:Nat) k',j≠p→(pg[j]? =some (.head k')↔pg'[j]? =some (.head k'))):cG pg' (gq (p:Int) k ll):=by
 intro i k'
 rw[iB hn,h i k']
 by_cases hi:i=p
 ·subst hi
  rw[Int.toNat_natCast,hp]
  constructor
  ·rintro(⟨_,rfl⟩|⟨h1,_⟩)
   ·exact⟨by omega,rfl⟩
   ·exact absurd rfl h1
  ·rintro⟨_,h1⟩
   injection h1 with h1;injection h1 with h1
   exact .inl ⟨rfl,h1.symm⟩
 ·constructor
  ·rintro(⟨h1,_⟩|⟨_,h1,h2⟩)
   ·exact absurd h1 hi
   ·exact⟨h1,(e _ _ (by omega)).mp h2⟩
  ·rintro⟨h1,h2⟩
   exact .inr ⟨hi,h1,(e _ _ (by omega)).mpr h2⟩
theorem cG.del{pg pg':List Pg}{ll:List (Int×Nat)}(h:cG pg ll)(hn:(ll.map (·.1)).Nodup){p:Nat}(hp:∀k,pg'[p]? ≠some (.head k))(e:∀(j:Nat) k',j≠p→(pg[j]? =some (.head k')↔pg'[j]? =some (.head k'))):cG pg' (ir (p:Int) ll):=by
 intro i k'
 rw[mT hn,h i k']
 by_cases hi:i=p
 ·subst hi
  rw[Int.toNat_natCast]
  constructor
  ·rintro⟨h1,_⟩;exact absurd rfl h1
  ·rintro⟨_,h1⟩;exact absurd h1 (hp _)
 ·constructor
  ·rintro⟨_,h1,h2⟩;exact⟨h1,(e _ _ (by omega)).mp h2⟩
  ·rintro⟨h1,h2⟩;exact⟨hi,h1,(e _ _ (by omega)).mpr h2⟩
end Go.Proofs.YtfepdmpplahloaaGreat
namespace Go.Gl
open Go
variable{ρ0 ρ:FR}{L L':List aA}{Post:Value→List aA→Prop}
theorem Sat.later{L:List aA}{w w':World}(h:∀(c:Nat) (o:Obj),w.heap[c]? =some o→w'.heap[c]? =some o)(hs:Sm w w')(H:Sat ρ L w):Sat ρ L w':=by
 obtain⟨⟨h0,hl,hh⟩,h3⟩:=H
 exact⟨⟨h0,hl,fun b o hb=>⟨h b o (hh b o hb).1,(hh b o hb).2⟩⟩,⟨fun b o hb=>h b o (h3 b o hb),h3.same.trans hs⟩⟩
theorem Sat.below{L:List aA}{w w':World}(hb:RowKit.Below w.heap.size w w')(H:Sat ρ L w):Sat ρ L w':=
 Sat.later (fun c o h=>by
  have:c<w.heap.size:=by
   rcases Nat.lt_or_ge c w.heap.size with g|g
   ·exact g
   ·rw[Array.getElem?_eq_none g]at h;cases h
  rw[hb.block c this];exact h) ⟨hb.os,hb.tape,hb.output⟩ H
theorem Sat.fresh{L:List aA}{w w':World}{g:Nat}{o:Obj}(hb:RowKit.Below w.heap.size w w')(hg:w.heap.size≤g)(ho:w'.heap[g]? =some o)(H:Sat ρ L w):Sat ρ (Gl.pt g o::L) w':=by
 have lt:∀b u,w.heap[b]? =some u→b<w.heap.size:=fun b u hb=>by
  rcases Nat.lt_or_ge b w.heap.size with h|h
  ·exact h
  ·rw[Array.getElem?_eq_none h]at hb;cases hb
 obtain⟨⟨h0,hl,hh⟩,h3⟩:=H
 refine⟨⟨fun c=>((fun c=>if c=g then some o else none) c).or (h0 c),⟨_,h0,fun c=> ?_,rfl,rfl,hl⟩,fun c u hu=> ?_⟩,⟨fun c u hu=> ?_,h3.same.trans ⟨hb.os,hb.tape,hb.output⟩⟩⟩
 ·by_cases hc:c=g
  ·subst hc;right
   cases hx:h0 c with
   |none=>rfl
   |some u=>have:=lt _ _ (hh _ _ hx).1;omega
  ·left;simp[hc]
 ·by_cases hc:c=g
  ·subst hc;simp at hu;subst hu
   refine⟨ho,?_⟩
   cases hx:ρ c with
   |none=>rfl
   |some u=>have:=lt _ _ (h3 _ _ hx);omega
  ·simp[hc]at hu
   have:=hh c u hu
   exact⟨by rw[hb.block c (lt _ _ this.1)];exact this.1,this.2⟩
 ·have:=h3 c u hu
  rw[hb.block c (lt _ _ this)];exact this
end Go.Gl
namespace Go.Proofs.YtfepdmpplahloaaGreat
open Go Go.Gl
variable{ρ:FR}
def Sp.sort(xs:List Int):List Int:=xs.mergeSort fun x y=>decide (x≤y)
theorem Sp.dB{xs:List Int}:(Sp.sort xs).length=xs.length:=by simp[Sp.sort]
theorem Sp.kP{xs ys:List Int}(h:xs.Perm ys):Sp.sort xs=Sp.sort ys:=mergeSort_of_perm_i h
theorem Sp.oD{xs:List Int}(h:xs.Pairwise (·≤·)):Sp.sort xs=xs:=List.mergeSort_of_pairwise (by simpa using h)
theorem qF(s:ay)(xs:List Int)(hl:xs.length<2^40):Gl.Spec ρ Tryz.prog 102 [.slice s.a s.n s.c] [aE s 1 (xs.map i64)] (.many [])
  fun _ M=>M=[aE s 1 ((Sp.sort xs).map i64)]:=by
 intro R w hw
 rcases hw.sl with ⟨g1,g2,g3,g4,g5⟩|⟨b,off,pre,rest,g1,g2,g3,g4,g5,g6⟩
 ·have hx:xs=[]:=by simpa using g4
  subst hx
  rw[g1,g2,g3]
  refine(AnyM.slices_Sort_int_none Tryz.sP none 0 w).mono ?_
  rintro e w' ⟨rfl,rfl⟩
  exact⟨(),_,rfl,rfl,by rw[show Sp.sort []=[]from by simp[Sp.sort]];exact hw⟩
 ·have hn:s.n=xs.length:=by simpa using g3.symm
  obtain⟨t,hb⟩:=g6.cl
  have hlt:b<w.heap.size:=(Array.getElem?_eq_some_iff.1 hb).1
  have hget:∀j,j<xs.length→(pre++(xs.map i64++rest))[off+j]? =(xs.map i64)[j]? :=fun j hj=>by rw[←g2];exact gp (by simpa using hj)
  have hH:Sort.Holds (Value.int .i64) w b off xs.toArray:=by
   intro j hj
   simp only[List.size_toArray]at hj
   refine⟨?_,by simp[World.frozen?,hb]⟩
   have e:(xs.toArray)[j]! =xs[j]:=by simp[hj]
   rw[e]
   refine cell_of hb ?_
   rw[List.getElem?_toArray,hget j hj];simp[hj]
  rw[g1,hn]
  refine(AnyM.slices_Sort_int Tryz.sP b off s.c xs w hH hlt (by omega)).mono ?_
  rintro e w' ⟨rfl,n,os,rfl⟩
  refine⟨(),_,rfl,rfl,?_⟩
  have cH:(Sort.putCells (Value.int .i64) off (Sp.sort xs).toArray (pre++(xs.map i64++rest)).toArray)=(pre++((Sp.sort xs).map i64++rest)).toArray:=by
   apply Array.ext_getElem?
   intro k
   simp only[Sort.putCells,Array.getElem?_mapIdx,List.getElem?_toArray,List.size_toArray]
   rcases Nat.lt_or_ge k off with c|c
   ·rw[List.getElem?_append_left (by omega),List.getElem?_append_left (by omega)]
    have:¬(off≤k∧k<off+(Sp.sort xs).length):=by omega
    simp[this]
   ·obtain⟨j,rfl⟩:∃j,k=off+j:=⟨k-off,by omega⟩
    rcases Nat.lt_or_ge j xs.length with c2|c2
    ·have h1:=hget j c2
     have h2:(pre++((Sp.sort xs).map i64++rest))[off+j]? =((Sp.sort xs).map i64)[j]? :=by rw[←g2];exact gp (by simpa[Sp.dB]using c2)
     rw[h1,h2]
     have h3:j<(Sp.sort xs).length:=by rw[Sp.dB];exact c2
     have:off≤off+j∧off+j<off+(Sp.sort xs).length:=by omega
     simp[c2,this,h3]
    ·have:¬(off≤off+j∧off+j<off+(Sp.sort xs).length):=by rw[Sp.dB];omega
     have h1:(pre++(xs.map i64++rest))[off+j]? =rest[j-xs.length]? :=by
      rw[←List.append_assoc,List.getElem?_append_right (by rw[List.length_append,List.length_map];omega)]
      congr 1;rw[List.length_append,List.length_map];omega
     have h2:(pre++((Sp.sort xs).map i64++rest))[off+j]? =rest[j-xs.length]? :=by
      rw[←List.append_assoc,List.getElem?_append_right (by rw[List.length_append,List.length_map,Sp.dB];omega)]
      congr 1;rw[List.length_append,List.length_map,Sp.dB];omega
     rw[h1,h2]
     have hj:¬j<xs.length:=by omega
     simp[hj,Sp.dB]
  have ou:Sat ρ (aw b (pre++((Sp.sort xs).map i64++rest))::R) (Sort.putRow (Value.int .i64) (Sort.ahead w n) b off (Sp.sort xs).toArray):=by
   obtain⟨⟨h,⟨h1,h2,hd,rfl,⟨t',ha⟩,hl⟩,hh⟩,h3⟩:=g6
   have ht:t'=t:=by
    have:=(hh b _ (by rw[ha];simp;rfl)).1
    rw[hb]at this;injection this with h;injection h with _ h;exact h.symm
   subst ht
   refine Sat.imp (fun _ h=>⟨t',h⟩) (Sat.set (o:= .cells (pre++(xs.map i64++rest)).toArray t' (0,0)) (w:=w) ⟨⟨_,⟨h1,h2,hd,rfl,ha,hl⟩,hh⟩,h3⟩ fun c=> ?_)
   show((Sort.ahead w n).heap.modify b (Sort.onCells _))[c]? =_
   rw[Array.getElem?_modify]
   by_cases hc:b=c
   ·subst hc
    simp only[if_true,Sort.ahead,hb,Option.map_some,Sort.onCells,cH]
   ·simp only[hc,if_false,if_neg (Ne.symm hc),Sort.ahead]
  have hfin:Sat ρ (aw b (pre++((Sp.sort xs).map i64++rest))::R) (Sort.grow (Sort.putRow (Value.int .i64) (Sort.ahead w n) b off (Sp.sort xs).toArray) os):=by
   refine Sat.later (w:=Sort.putRow (Value.int .i64) (Sort.ahead w n) b off (Sp.sort xs).toArray) (fun c o h=> ?_) ⟨rfl,rfl,rfl⟩ ou
   show((Sort.putRow (Value.int .i64) (Sort.ahead w n) b off (Sp.sort xs).toArray).heap++os)[c]? =some o
   rw[Array.getElem?_append_left (Array.getElem?_eq_some_iff.1 h).1]
   exact h
  exact Sat.imp (fun h hh=> .inr ⟨b,off,pre,rest,g1,g2,by rw[List.length_map,Sp.dB];simpa using g3,g4,g5,hh⟩) hfin
theorem BV(m:Nat):AnyZI.SortsIn Tryz.prog Tryz.mE Fence.wide m:=
 ⟨fun aw off cap ss W hH hblk hsz=>callsIn_wide.2 (AnyM.slices_Sort_int Tryz.sP aw off cap ss W hH hblk hsz),
  fun p cap W=>callsIn_wide.2 (AnyM.slices_Sort_int_none Tryz.sP p cap W)⟩
abbrev qj:FuncId:=234
theorem xk(b:Nat):Gl.Spec ρ Tryz.prog 230 [.map (some b)] [] (.one (.l .any))
  fun r M=>∃B,r= .func (.func qj) #[] #[.pointer (some ⟨B,0,none⟩)]∧M=[aw B [.map (some b)]]:=by
 intro R w hw
 refine(callsIn_wide.1 (AnyZI.keys_in Tryz.q9 Fence.wide 5 trivial rfl (some b) w)).mono ?_
 rintro e w' ⟨rfl,rfl⟩
 refine⟨.func (.func qj) #[] #[.pointer (some ⟨w.heap.size,0,none⟩)],_,rfl,⟨w.heap.size,rfl,rfl⟩,?_⟩
 exact Sat.ta (cs:=[.map (some b)]) hw
theorem tV{α:Type}(b B:Nat)(f:α→Value)(l:List (Int×α))(hk:∀x∈l,0≤x.1∧x.1<2^40)(hl:l.length≤2^20):Gl.Spec ρ Tryz.prog 229 [.func (.func qj) #[] #[.pointer (some ⟨B,0,none⟩)]] [aw B [.map (some b)],IM b f l] (.one (.l .slice))
  fun r M=>r.n=l.length∧M=[aE r 1 ((Sp.sort (l.map (·.1))).map i64),IM b f l]:=by
 intro R w hw
 obtain⟨tB,hB⟩:=hw.cl
 have hBlt:B<w.heap.size:=(Array.getElem?_eq_some_iff.1 hB).1
 have hw2:Sat ρ (IM b f l::R) w:=hw.drop
 obtain⟨es,clock,he,hs⟩:=hw2.im
 have hb:=hs.pt
 let Rr:Value→Option (DataW Unit×List MemPlace):=fun _=>some (.nil,[])
 have hlen:es.length=l.length:=by have:=congrArg List.length he.kv;simpa using this
 have hkt:Tryz.prog.underlying 3=some (.int .i64):=by kernel_rfl
 have hrd:∀x∈es,∃y∈l,x.key= .int .i64 y.1:=fun x hx=>by
  have:(x.key,x.val)∈es.map fun e=>(e.key,e.val):=List.mem_map_of_mem (f:=fun e:MapEntry=>(e.key,e.val)) hx
  rw[he.kv,List.mem_map]at this
  obtain⟨y,hy,e⟩:=this
  injection e with e1 e2
  exact⟨y,hy,e1.symm⟩
 have hwf:∀y∈l,(Lit.int .i64 y.1).wf=true:=fun y hy=>by
  have:=hk y hy
  simp[Lit.wf,IntKind.min,IntKind.max,IntKind.signed,IntKind.bits]
  omega
 have hrdx:∀x∈es,∀y:Int×α,y∈l→x.key= .int .i64 y.1→WideElems.rd Tryz.prog 3 Rr x=some (.int .i64 y.1,.nil):=fun x hx y hy hxy=>by
  unfold WideElems.rd
  rw[hxy,Maps.keyOf_int_mk hkt (hwf y hy)];rfl
 have hown:w.ownsMap Tryz.prog 3 Rr b es.length (.map ((es.map (WideElems.rg Tryz.prog 3 Rr)).foldr DataW.insert [])):=by
  refine⟨es.toArray,clock,hb,⟨by show es.length≤2^63-1;omega,⟨by simpa using he.lT,by simpa using he.Eu,?_⟩,?_⟩,by simp,by simp⟩
  ·have e1:es.map (·.key)=l.map fun x=>Value.int .i64 x.1:=by
    have:=congrArg (List.map Prod.fst) he.kv
    simpa[Function.comp_def]using this
   have e2:l.map (fun x=>Value.int .i64 x.1)=(l.map (·.1)).map (Value.int .i64):=by simp
   simp only[List.toList_toArray]
   rw[e1,e2]
   exact List.Pairwise.map (S:=(·≠·)) _ (fun a b hne h=>hne (by injection h)) he.keys
  ·intro x hx
   simp only[List.toList_toArray]at hx
   obtain⟨y,hy,hxy⟩:=hrd x hx
   exact⟨_,hrdx x hx y hy hxy⟩
 have hperm:(intKeys (.map ((es.map (WideElems.rg Tryz.prog 3 Rr)).foldr DataW.insert []):DataW Unit)).Perm (l.map (·.1)):=by
  have h1:(intKeys (.map ((es.map (WideElems.rg Tryz.prog 3 Rr)).foldr DataW.insert []):DataW Unit)).Perm ((es.map (WideElems.rg Tryz.prog 3 Rr)).map fun p=>Go.intOf p.1):=(WideShapes.sorted_perm _).map _
  have h2:(es.map (WideElems.rg Tryz.prog 3 Rr)).map (fun p=>Go.intOf p.1)=l.map (·.1):=by
   have h3:(es.map (WideElems.rg Tryz.prog 3 Rr)).map (fun p=>Go.intOf p.1)=(es.map fun e=>(e.key,e.val)).map (fun p=>RowKit.intOf p.1):=by
    simp only[List.map_map]
    apply List.map_congr_left
    intro x hx
    obtain⟨y,hy,hxy⟩:=hrd x hx
    simp only[Function.comp,WideElems.rg,hrdx x hx y hy hxy,hxy]
    rfl
   rw[h3,he.kv]
   simp[RowKit.intOf]
  rw[h2]at h1;exact h1
 have hsize:Maps.size (.map ((es.map (WideElems.rg Tryz.prog 3 Rr)).foldr DataW.insert []):DataW Unit)=l.length:=by
  have:=hperm.length_eq
  simp only[intKeys,List.length_map]at this
  exact this
 have hseq:SeqGives Fence.wide 2 Tryz.prog qj #[.pointer (some ⟨B,0,none⟩)] encZ (fun ss=>ss.Perm (intKeys (.map ((es.map (WideElems.rg Tryz.prog 3 Rr)).foldr DataW.insert []):DataW Unit))) (Maps.size (.map ((es.map (WideElems.rg Tryz.prog 3 Rr)).foldr DataW.insert []):DataW Unit)) w:=
  AnyZI.keys_gives (ρ:=Tryz.lu) {Tryz.q9 with} Fence.wide _ trivial rfl (by omega) B b es.length _ w hBlt (cell_of hB rfl) hown
 have cS:=AnyZI.sorted_in Tryz.ze Fence.wide 5 trivial trivial trivial trivial rfl (by omega) (BV _) (enters_of Tryz.func102 (by kernel_rfl) rfl) qj #[.pointer (some ⟨B,0,none⟩)] trivial (enters_of Tryz.func234 (by kernel_rfl) rfl) _ _ (by rw[hsize];show l.length≤2^63-1;omega) (by rw[hsize];omega) w hseq
 refine(callsIn_wide.1 cS).mono ?_
 rintro e w' ⟨v,ss,rfl,hS,hrow,hnil,hbl⟩
 have hp:ss.Perm (l.map (·.1)):=hS.trans hperm
 have hsort:ss.mergeSort (fun x y=>decide (x≤y))=Sp.sort (l.map (·.1)):=Sp.kP hp
 have hssl:ss.length=l.length:=by have:=hp.length_eq;simpa using this
 rw[hsort]at hrow
 rcases hrow.2 with ⟨rfl,hz⟩|⟨g,cap,cur,rfl,hg,hgb,r1,r2,r3,r4⟩
 ·refine⟨(⟨none,0,0⟩:ay),_,rfl,⟨by rw[←hssl,hz],rfl⟩,?_⟩
  have hl0:l=[]:=List.eq_nil_of_length_eq_zero (by omega)
  subst hl0
  have:=Sat.below hbl hw2
  obtain⟨⟨h0,hl',hh⟩,h3⟩:=this
  have e0:Sp.sort (([]:List (Int×α)).map (·.1))=[]:=by simp[Sp.sort]
  rw[e0]
  exact⟨⟨h0,⟨fun _=>none,h0,fun _=> .inl rfl,by funext b;simp,aE.nil 1 _ (fun _=>rfl),hl'⟩,hh⟩,h3⟩
 ·replace hgb:w'.heap[g]? =some (.cells cur 3 (0,0)):=hgb
  refine⟨(⟨some ⟨g,0,none⟩,ss.length,cap⟩:ay),_,rfl,⟨hssl,rfl⟩,?_⟩
  refine Sat.imp (A:=Gl.pt g (.cells cur 3 (0,0))) (fun h hh=> .inr ⟨g,0,[],cur.toList.drop ss.length,rfl,rfl,?_,?_,r1,?_⟩) (Sat.fresh hbl hg hgb hw2)
  ·simp[Sp.dB,hssl]
  ·simp[r3]
  ·rw[Nat.mul_one]at r4
   refine⟨3,?_⟩
   have:([]:List Value)++((Sp.sort (l.map (·.1))).map i64++cur.toList.drop ss.length)=cur.toList:=by
    rw[List.nil_append,←r4,List.take_append_drop]
   rw[this]
   simpa using hh
end Go.Proofs.YtfepdmpplahloaaGreat
namespace Go.Proofs.YtfepdmpplahloaaGreat
open Go Go.Gl
variable{ρ0 ρ:FR}{L L':List aA}{Post:Value→List aA→Prop}{T:Tree}
def lC(x:Int×oO):aA:=bF x.2.1 x.2.2.2 (Sp.sz x.2.2.1)
theorem eW{l1 l2:List (Int×oO)}(i:Int){q c:Nat}{l:List Bool}(h:HP)(H:star [bF q l (Sp.sz c),star ((l1++l2).map lC)] h):star ((l1++(i,q,c,l)::l2).map lC) h:=
 kK (P:=lC) (x:=(i,q,c,l)) h H
structure FD where
 pa:Nat
 pp:Nat
 ms:Nat
 ml:Nat
 ls:List (Int×oO)
 ll:List (Int×Nat)
def aF(p:Nat)(S:aD):aA:=fun h=>∃i:FD,(cx S.pg i.ls∧cG S.pg i.ll)∧
 star [aw p [.pointer (some ⟨i.pa,0,none⟩),.pointer (some ⟨i.pp,0,none⟩),.map (some i.ms),.map (some i.ml)],bE i.pa S.ws,cc i.pp (S.pg.map Pg.taken),IM i.ms fS i.ls,IM i.ml fL i.ll,star (i.ls.map lC)] h
theorem aF.op{p:Nat}{S:aD}(t:Take L (aF p S) L') (h:∀(pa pp ms ml:Nat) (ls:List (Int×oO)) (ll:List (Int×Nat)),cx S.pg ls→cG S.pg ll→(ls.map (·.1)).Nodup→(ll.map (·.1)).Nodup→
  Tr ρ0 ρ (aw p [.pointer (some ⟨pa,0,none⟩),.pointer (some ⟨pp,0,none⟩),.map (some ms),.map (some ml)]::bE pa S.ws::cc pp (S.pg.map Pg.taken)::IM ms fS ls::IM ml fL ll::star (ls.map lC)::L') T Post):Tr ρ0 ρ L T Post:=
 Tr.gh (M:=fun i:FD=>[aw p [.pointer (some ⟨i.pa,0,none⟩),.pointer (some ⟨i.pp,0,none⟩),.map (some i.ms),.map (some i.ml)],bE i.pa S.ws,cc i.pp (S.pg.map Pg.taken),IM i.ms fS i.ls,IM i.ml fL i.ll,star (i.ls.map lC)]) t (fun _ h=>h)
  fun i hi=>Tr.keys (b:=i.ms) (f:=fS) (l:=i.ls) tk fun n1=>Tr.keys (b:=i.ml) (f:=fL) (l:=i.ll) tk fun n2=>h i.pa i.pp i.ms i.ml i.ls i.ll hi.1 hi.2 n1 n2
theorem aF.cl{p pa pp ms ml:Nat}{S:aD}{ls:List (Int×oO)}{ll:List (Int×Nat)}(h1:cx S.pg ls)(h2:cG S.pg ll)(h:HP)
  (H:star [aw p [.pointer (some ⟨pa,0,none⟩),.pointer (some ⟨pp,0,none⟩),.map (some ms),.map (some ml)],bE pa S.ws,cc pp (S.pg.map Pg.taken),IM ms fS ls,IM ml fL ll,star (ls.map lC)] h):aF p S h:=⟨⟨pa,pp,ms,ml,ls,ll⟩,⟨h1,h2⟩,H⟩
abbrev FU:TypeId:=162
abbrev FT:TypeId:=163
theorem Di:Tryz.prog.underlying FU=some (.map 3 166):=by kernel_rfl
theorem ER:Tryz.prog.underlying FT=some (.map 3 3):=by kernel_rfl
theorem uI:Tryz.prog.underlying 3=some (.int .i64):=by kernel_rfl
theorem EO:(Tryz.prog.info? 166).bind (·.zero)=some (LK.ptr.val none):=by kernel_rfl
theorem zI:(Tryz.prog.info? 3).bind (·.zero)=some ((LK.int .i64).val (0:Int)):=by kernel_rfl
def gS(x:oO):LT .ptr:=some ⟨x.1,0,none⟩
def gL(k:Nat):LT (.int .i64):=(k:Int)
theorem Ds(x:oO):fS x=LK.ptr.val (gS x):=rfl
theorem EH(k:Nat):fL k=(LK.int .i64).val (gL k):=rfl
def Sp.bB(n:Nat):aD:=⟨List.replicate (n*64) 0,.res::List.replicate (n-1) .free⟩
theorem Sp.qV{n:Nat}(h0:1≤n)(h1:n≤256):Wf (Sp.bB n):=by
 have hg:∀i:Nat,(Sp.bB n).pg[i]? =if i=0 then some .res else if i<n then some .free else none:=by
  intro i
  unfold Sp.bB
  cases i with
  |zero=>rfl
  |succ i=>
   simp only[List.getElem?_cons_succ,List.getElem?_replicate]
   by_cases hi:i<n-1
   ·rw[if_pos hi,if_neg (by omega),if_pos (by omega)]
   ·rw[if_neg hi,if_neg (by omega),if_neg (by omega)]
 refine⟨by simp[Sp.bB];omega,by simp[Sp.bB];omega,by simp[Sp.bB],?_,?_,?_,?_⟩
 ·intro i;rw[hg];split
  ·simp[*]
  ·split<;>simp[*]
 ·intro i c l h;rw[hg]at h;split at h
  ·cases h
  ·split at h<;>cases h
 ·intro i k h;rw[hg]at h;split at h
  ·cases h
  ·split at h<;>cases h
 ·intro i h;rw[hg]at h;split at h
  ·cases h
  ·split at h<;>cases h
theorem xx(n:Int)(h0:1≤n)(h1:n≤256):Gl.Spec ρ Tryz.prog 71 [i64 n] [] PE
  fun r M=>∃b,r=(some ⟨b,0,none⟩,0,())∧M=[aF b (Sp.bB n.toNat)]:=by
 refine Spec.of (fun Q w h=>F.space.dc.calls n h) fun R=> ?_
 unfold F.space.dc
 try simp only[aq,al]
 refine ae (xz n h0 h1) ag ?_
 rintro x M ⟨pa,rfl,rfl⟩
 try simp only[aq,al]
 refine ak rfl ?_
 refine ae (xV n h0 h1) ag ?_
 rintro x M ⟨pp,rfl,rfl⟩
 try simp only[aq,al]
 refine ak rfl (oK fS fun ms=>oK fL fun ml=>ax fun b=> ?_)
 have e:true::List.replicate (n.toNat-1) false=(Sp.bB n.toNat).pg.map Pg.taken:=by simp[Sp.bB,Pg.taken]
 rw[e]
 refine Tr.none ?_
 have hw:=Sp.qV (n:=n.toNat) (by omega) (by omega)
 refine Tr.close (M:=[aw b [.pointer (some ⟨pa,0,none⟩),.pointer (some ⟨pp,0,none⟩),.map (some ms),.map (some ml)],bE pa (Sp.bB n.toNat).ws,cc pp ((Sp.bB n.toNat).pg.map Pg.taken),IM ms fS [],IM ml fL [],star (([]:List (Int×oO)).map lC)]) ag (aF.cl (S:=Sp.bB n.toNat) (p:=b) ?_ ?_) ?_
 ·intro i c l
  simp only[List.not_mem_nil,exists_false,false_iff,not_and]
  intro _ h
  unfold Sp.bB at h
  cases hi:i.toNat with
  |zero=>rw[hi]at h;cases h
  |succ j=>rw[hi]at h;simp[List.getElem?_replicate]at h
 ·intro i k
  simp only[List.not_mem_nil,false_iff,not_and]
  intro _ h
  unfold Sp.bB at h
  cases hi:i.toNat with
  |zero=>rw[hi]at h;cases h
  |succ j=>rw[hi]at h;simp[List.getElem?_replicate]at h
 exact aa (x:=(some ⟨b,0,none⟩,0,())) rfl ⟨b,rfl,rfl⟩ ag aB
theorem Ak(n:Nat):Int.tdiv (n:Int) 64=((n/64:Nat):Int):=rfl
theorem zZ(n:Nat):Int.tmod (n:Int) 64=((n%64:Nat):Int):=rfl
theorem C8(n k:Nat):Int.tdiv (n:Int) (k:Int)=((n/k:Nat):Int):=rfl
abbrev P3:RK:= .many [.l (.int .i64),.l (.int .i64),.l .bool]
def Sp.found:Option (Nat×Nat)→RT P3
 |some (s,w)=>((s:Int),(w:Int),true,())|none=>((0:Int),(0:Int),false,())
theorem lM(p:Nat)(S:aD)(hw:Wf S)(a:Int):Gl.Spec ρ Tryz.prog 67 [.pointer (some ⟨p,0,none⟩),i64 a] [aF p S] P3
  fun r M=>r=Sp.found (Sp.find S a)∧M=[aF p S]:=by
 have hlen:=hw.len
 have hmost:=hw.gv
 refine Spec.of (fun Q w h=>F.space.bn.Find.calls (some ⟨p,0,none⟩) a h) fun R=> ?_
 unfold F.space.bn.Find
 try simp only[aq,al]
 refine ak rfl (aj (fun h=> ?_) (fun h=> ?_))
 ·replace h:=of_decide_eq_true h
  rw[Sp.dA (by omega)]
  exact aa (x:=Sp.found none) rfl ⟨rfl,rfl⟩ ag aB
 ·replace h:=of_decide_eq_false h
  obtain⟨n,rfl⟩:∃n:Nat,a=n:=⟨a.toNat,by omega⟩
  refine ah (aF.op tk fun pa pp ms ml ls ll hS hL nS nL=> ?_)
  refine ai (k:= .ptr) (x:=some ⟨pa,0,none⟩) (by rw[af]) tk rfl ?_
  refine ae (m7 pa S.ws) ag ?_
  rintro x M ⟨rfl,rfl⟩
  try simp only[aq,al]
  refine aj (fun h2=> ?_) (fun h2=> ?_)
  ·replace h2:=of_decide_eq_true h2
   rw[Sp.dA (by omega)]
   refine Tr.close ag (aF.cl (p:=p) (pa:=pa) (pp:=pp) (ms:=ms) (ml:=ml) hS hL) ?_
   exact aa (x:=Sp.found none) rfl ⟨rfl,rfl⟩ ag aB
  ·replace h2:=of_decide_eq_false h2
   have hn:n<S.ws.length:=by omega
   have hp:n/64<S.pg.length:=by omega
   refine bu (by decide) (ah ?_)
   refine ai (k:= .map) (x:=some ms) (by rw[af]) tk rfl ?_
   rw[Ak,wrap64 (n:=((n/64:Nat):Int)) (by omega) (by omega)]
   refine l9 (kd:= .ptr) (g:=gS) (z0:=none) Di uI EO Ds tk ?_
   by_cases hsm:∃c l,S.pg[n/64]? =some (.small c l)
   ·obtain⟨c,l,hsm⟩:=hsm
    obtain⟨hc,hll⟩:=hw.small _ _ _ hsm
    obtain⟨q,hq⟩:=hS.get nS hsm
    rw[hq,Sp.dy hn hsm]
    obtain⟨l1,l2,rfl,_,_⟩:=gP hq
    refine aH rfl (bu (by decide) ?_)
    refine Tr.Dy (P:=lC) tk ?_
    refine ae (dz q l (Sp.sz c)) (aI.cons .here .nil) ?_
    rintro x M ⟨rfl,rfl⟩
    try simp only[aq,al]
    have hz:=Sp.cZ hc
    refine bu (by omega) (ah ?_)
    refine bF.op tk fun b=> ?_
    refine ai (k:= .ptr) (b:=q) (x:=some ⟨b,0,none⟩) (by rw[af]) tk rfl ?_
    have hm:n%64/Sp.sz c*Sp.sz c≤n%64:=Nat.div_mul_le_self _ _
    have hd2:n%64/Sp.sz c≤n%64:=Nat.div_le_self _ _
    rw[zZ,C8]
    generalize n%64/Sp.sz c=d at hm hd2⊢
    rw[wrap64 (n:=(d:Int)) (by omega) (by omega)]
    refine ae (l4 b l (d:Int)) ag ?_
    rintro x M ⟨rfl,rfl⟩
    try simp only[aq,al]
    refine Tr.close (M:=[aw q [.pointer (some ⟨b,0,none⟩),i64 (Sp.sz c)],aX b l]) ag (bF.cl (p:=q)) ?_
    have hh:Sp.has l (d:Int)=l.getD d false:=by simp[Sp.has]
    rw[hh]
    refine aj (fun h3=> ?_) (fun h3=> ?_)
    ·rw[if_neg (by simpa using h3)]
     refine Tr.close (M:=[bF q l (Sp.sz c),star ((l1++l2).map lC)]) ag (eW ((n/64:Nat):Int) (q:=q) (c:=c) (l:=l)) ?_
     refine Tr.close ag (aF.cl (p:=p) (pa:=pa) (pp:=pp) (ms:=ms) (ml:=ml) hS hL) ?_
     exact aa (x:=Sp.found none) rfl ⟨rfl,rfl⟩ ag aB
    ·rw[if_pos (by simpa using h3)]
     refine ae (dz q l (Sp.sz c)) ag ?_
     rintro x M ⟨rfl,rfl⟩
     try simp only[aq,al]
     refine ae (dz q l (Sp.sz c)) ag ?_
     rintro x M ⟨rfl,rfl⟩
     try simp only[aq,al]
     refine Tr.close (M:=[bF q l (Sp.sz c),star ((l1++l2).map lC)]) ag (eW ((n/64:Nat):Int) (q:=q) (c:=c) (l:=l)) ?_
     refine Tr.close ag (aF.cl (p:=p) (pa:=pa) (pp:=pp) (ms:=ms) (ml:=ml) hS hL) ?_
     have e1:(d:Int)*(Sp.sz c:Int)=((d*Sp.sz c:Nat):Int):=by simp
     rw[e1]
     generalize d*Sp.sz c=dd at hm⊢
     rw[wrap64 (n:=(dd:Int)) (by omega) (by omega),wrap64 (n:=((n/64:Nat):Int)*64) (by omega) (by omega),wrap64 (by omega) (by omega)]
     refine aa (x:=Sp.found (some (n/64*64+dd,Sp.sz c))) ?_ ⟨rfl,rfl⟩ ag aB
     simp[Sp.found,RK.val,KD.val,LK.val,iY]
   ·have hns:∀c l,S.pg[n/64]? ≠some (.small c l):=fun c l h=>hsm ⟨c,l,h⟩
    rw[hS.none hns,Sp.cO hn hns]
    refine ak rfl (ah ?_)
    refine ai (k:= .map) (x:=some ml) (by rw[af]) tk rfl ?_
    refine uQ ER tk fun r=> ?_
    refine aP (fun m _ M=>∃rem cur,m=rem.length∧M=MI ml r fL ll rem cur::bE pa S.ws::aw p [.pointer (some ⟨pa,0,none⟩),.pointer (some ⟨pp,0,none⟩),.map (some ms),.map (some ml)]::cc pp (S.pg.map Pg.taken)::IM ms fS ls::star (ls.map lC)::R∧
      (∀x∈rem,x∈ll)∧∀x∈ll,x∈rem∨¬(x.1≤((n/64:Nat):Int)∧((n/64:Nat):Int)<x.1+(x.2:Int))) ll.length ?_ ?_
    ·exact⟨ll,none,rfl,rfl,fun x hx=>hx,fun x hx=> .inl hx⟩
    ·rintro m ⟨⟩ M ⟨rem,cur,rfl,rfl,hsub,hrem⟩ X hX
     refine vJ (kv:= .int .i64) (g:=gL) EH .here (fun h0=> ?_) (fun k v r1 r2 hr=> ?_)
     ·subst h0
      have hno:Sp.own S.pg (n/64)=none:=by
       refine Sp.sb fun j k hj hjk=> ?_
       have:=hrem ((j:Int),k) ((hL j k).mpr ⟨by omega,by simpa using hj⟩)
       rcases this with h|h
       ·cases h
       ·exact h ⟨by dsimp only;omega,by dsimp only;omega⟩
      rw[hno]
      refine MI.over .here ?_
      refine Tr.close ag (aF.cl (p:=p) (pa:=pa) (pp:=pp) (ms:=ms) (ml:=ml) hS hL) ?_
      exact aa (x:=Sp.found none) rfl ⟨rfl,rfl⟩ ag aB
     ·refine vK (kv:= .int .i64) (g:=gL) EH .here ?_
      have hkv:(k,v)∈ll:=hsub _ (by rw[hr];simp)
      obtain⟨hk0,hkp⟩:=(hL k v).mp hkv
      obtain⟨j,rfl⟩:∃j:Nat,k=j:=⟨k.toNat,by omega⟩
      rw[Int.toNat_natCast]at hkp
      have next:¬((j:Int)≤((n/64:Nat):Int)∧((n/64:Nat):Int)<(j:Int)+(v:Int))→(∀x∈r1++r2,x∈ll)∧∀x∈ll,x∈r1++r2∨¬(x.1≤((n/64:Nat):Int)∧((n/64:Nat):Int)<x.1+(x.2:Int)):=by
       intro hno
       refine⟨fun x hx=>hsub x ?_,fun x hx=> ?_⟩
       ·rw[hr];simp at hx⊢;rcases hx with h|h<;>simp[h]
       ·rcases hrem x hx with h|h
        ·rw[hr]at h;simp at h
         rcases h with h|h|h
         ·exact .inl (by simp[h])
         ·right;rw[h];exact hno
         ·exact .inl (by simp[h])
        ·exact .inr h
      obtain⟨v1,v2,v3,_⟩:=hw.head _ _ hkp
      have w1:IntKind.wrap .i64 ((j:Int)+gL v)=(j:Int)+(v:Int):=wrap64 (by unfold gL;omega) (by unfold gL;omega)
      dsimp only
      rw[w1]
      refine aj (fun h1=> ?_) (fun h1=> ?_)
      ·replace h1:=of_decide_eq_true h1
       refine aj (fun h2=> ?_) (fun h2=> ?_)
       ·replace h2:=of_decide_eq_true h2
        have ho:Sp.own S.pg (n/64)=some (j,v):=Sp.nA hw hkp ⟨by omega,by omega⟩
        rw[ho]
        refine MI.over .here ?_
        refine Tr.close ag (aF.cl (p:=p) (pa:=pa) (pp:=pp) (ms:=ms) (ml:=ml) hS hL) ?_
        have w2:IntKind.wrap .i64 ((j:Int)*64)=(j:Int)*64:=wrap64 (by omega) (by omega)
        have w3:IntKind.wrap .i64 (gL v*64)=(v:Int)*64:=wrap64 (by unfold gL;omega) (by unfold gL;omega)
        rw[w2,w3]
        refine aa (x:=Sp.found (some (j*64,v*64))) ?_ ⟨rfl,rfl⟩ ag aB
        simp[Sp.found,RK.val,KD.val,LK.val,iY]
       ·replace h2:=of_decide_eq_false h2
        exact hX (r1++r2).length _ _ (by rw[hr];simp) ⟨r1++r2,_,rfl,rfl,next (by omega)⟩
      ·replace h1:=of_decide_eq_false h1
       exact hX (r1++r2).length _ _ (by rw[hr];simp) ⟨r1++r2,_,rfl,rfl,next (by omega)⟩
end Go.Proofs.YtfepdmpplahloaaGreat
namespace Go.Proofs.YtfepdmpplahloaaGreat
open Go Go.Gl
variable{ρ0 ρ:FR}{L L':List aA}{Post:Value→List aA→Prop}{T:Tree}
def Pg.EI:Pg→Bool| .small _ _=>true|_=>false
def Sp.cm(pg:List Pg):List Nat:=(List.range pg.length).filter fun p=>(pg.getD p .free).EI
theorem Sp.eG{pg:List Pg}{p:Nat}:p∈Sp.cm pg↔∃c l,pg[p]? =some (.small c l):=by
 unfold Sp.cm
 rw[List.mem_filter,List.mem_range]
 constructor
 ·rintro⟨h1,h2⟩
  rw[List.getD_eq_getElem?_getD,List.getElem?_eq_getElem h1]at h2
  rw[List.getElem?_eq_getElem h1]
  revert h2
  generalize pg[p]=x
  intro h2
  cases x with
  |small c l=>exact⟨c,l,rfl⟩
  |_=>cases h2
 ·rintro⟨c,l,h⟩
  exact⟨aV h,by rw[List.getD_eq_getElem?_getD,h];rfl⟩
theorem Sp.gK(pg:List Pg):(Sp.cm pg).Pairwise (·<·):=List.Pairwise.filter _ List.pairwise_lt_range
theorem keys_perm{pg:List Pg}{ls:List (Int×oO)}(hS:cx pg ls)(nS:(ls.map (·.1)).Nodup):(ls.map (·.1)).Perm ((Sp.cm pg).map fun p:Nat=>(p:Int)):=by
 rw[List.perm_ext_iff_of_nodup nS]
 ·intro i
  rw[List.mem_map,List.mem_map]
  constructor
  ·rintro⟨⟨i',q,c,l⟩,h1,rfl⟩
   obtain⟨h0,h2⟩:=(hS i' c l).mp ⟨q,h1⟩
   exact⟨i'.toNat,Sp.eG.mpr ⟨c,l,h2⟩,by dsimp only;omega⟩
  ·rintro⟨p,hp,rfl⟩
   obtain⟨c,l,h⟩:=Sp.eG.mp hp
   obtain⟨q,hq⟩:=(hS p c l).mpr ⟨by omega,by simpa using h⟩
   exact⟨_,hq,rfl⟩
 ·exact List.Pairwise.map (R:=(·<·)) (S:=(·≠·)) _ (fun a b h=>by omega) (Sp.gK pg)
theorem tQ{pg:List Pg}{ls:List (Int×oO)}(hS:cx pg ls)(nS:(ls.map (·.1)).Nodup):Sp.sort (ls.map (·.1))=(Sp.cm pg).map fun p:Nat=>(p:Int):=by
 rw[Sp.kP (keys_perm hS nS)]
 exact Sp.oD (List.Pairwise.map (R:=(·<·)) (S:=(·≤·)) _ (fun a b h=>by omega) (Sp.gK pg))
theorem As{pg:List Pg}{ls:List (Int×oO)}(hS:cx pg ls)(nS:(ls.map (·.1)).Nodup):ls.length=(Sp.cm pg).length∧ls.length≤pg.length:=by
 have h:=(keys_perm hS nS).length_eq
 simp only[List.length_map]at h
 refine⟨h,?_⟩
 rw[h,Sp.cm]
 exact Nat.le_trans (List.length_filter_le _ _) (by simp)
def Sp.lg(pg:List Pg)(c:Nat)(p:Nat):Bool:=match pg[p]? with |some (Pg.small c' l)=>c'==c&& !decide (l.count true=l.length)|_=>false
theorem Sp.zx(pg:List Pg)(c:Nat):Sp.iW pg c=(Sp.cm pg).find? (Sp.lg pg c):=by
 show _=((List.range pg.length).filter fun p=>(pg.getD p .free).EI).find? (Sp.lg pg c)
 rw[List.find?_filter]
 unfold Sp.iW
 congr 1
 funext p
 change Sp.lg pg c p=_
 cases h:Sp.lg pg c p with
 |false=>simp
 |true=>
  have:(pg[p]?.getD .free).EI=true:=by
   unfold Sp.lg at h
   split at h
   ·rename_i c' l hp;rw[hp];rfl
   ·cases h
  simp[this]
theorem DZ{c c':Nat}(h:c<5)(h':c'<5)(e:Sp.sz c=Sp.sz c'):c=c':=by
 have h1:=Sp.cZ h
 have h2:=Sp.cZ h'
 omega
theorem uU(p:Nat)(S:aD)(hw:Wf S)(c:Nat)(hc:c<5):Gl.Spec ρ Tryz.prog 225 [.pointer (some ⟨p,0,none⟩),i64 c] [aF p S] IB
  fun r M=>r=(match Sp.iW S.pg c with |some i=>((i:Int),true,())|none=>((0:Int),false,()))∧M=[aF p S]:=by
 have hmost:=hw.gv
 refine Spec.of (fun Q w h=>F.space.bn.open.calls (some ⟨p,0,none⟩) c h) fun R=> ?_
 unfold F.space.bn.open
 try simp only[aq,al]
 refine ae (jh) ag ?_
 rintro s M ⟨hs,rfl⟩
 try simp only[aq,al]
 refine cn (s:=s) (xs:=Sp.dx.map i64) tk (by omega) (by rw[hs];omega) fun a0 ha=> ?_
 refine cT (s:=s) (xs:=Sp.dx.map i64) (j:=c) (x:=Sp.dx.getD c 0) ha tk (by rintro b o rfl;simp[af]) (getD_map (by show _<5;omega)) ?_
 rw[Sp.rF hc]
 refine ah (aF.op tk fun pa pp ms ml ls ll hS hL nS nL=> ?_)
 refine ai (k:= .map) (x:=some ms) (by rw[af]) tk rfl ?_
 refine ae (xk ms) ag ?_
 rintro x M ⟨B,rfl,rfl⟩
 try simp only[aq,al]
 have hkl:=As hS nS
 refine ae (tV ms B fS ls (fun x hx=> ?_) (by omega)) ag ?_
 ·obtain⟨i,q,c',l⟩:=x
  obtain⟨h0,h1⟩:=(hS i c' l).mp ⟨q,hx⟩
  have:=aV h1
  exact⟨h0,by dsimp only;omega⟩
 rintro r M ⟨hr,rfl⟩
 try simp only[aq,al]
 rw[tQ hS nS]
 refine Tr.cX (s:=r) tk fun ρ' hle hro=> ?_
 have hrn:r.n=(Sp.cm S.pg).length:=by rw[hr,hkl.1]
 have hix:(Sp.cm S.pg).length≤256:=by omega
 refine Tr.close ag (aF.cl (p:=p) (pa:=pa) (pp:=pp) (ms:=ms) (ml:=ml) hS hL) ?_
 refine aP (fun n u M=>(fun j:Int=>M=aF p S::aE s 1 (Sp.dx.map i64)::R∧
   0≤j∧j≤(Sp.cm S.pg).length∧n=(Sp.cm S.pg).length-j.toNat∧Sp.iW S.pg c=((Sp.cm S.pg).drop j.toNat).find? (Sp.lg S.pg c)) u.1) (Sp.cm S.pg).length ?_ ?_
 ·exact⟨rfl,by simp,by simp,by simp,by simpa using Sp.zx S.pg c⟩
 ·rintro n ⟨(j:Int),⟨⟩⟩ M ⟨rfl,h0,h1,rfl,hf⟩ X hX
  dsimp only at*
  refine aj (fun h=> ?_) (fun h=> ?_)
  ·replace h:j<(r.n:Int):=of_decide_eq_true h
   rw[hrn]at h
   have hj:j.toNat<(Sp.cm S.pg).length:=by omega
   rw[iF 0 hj]at hf
   obtain⟨k,hk⟩:∃k,(Sp.cm S.pg).getD j.toNat 0=k:=⟨_,rfl⟩
   rw[hk]at hf
   have hkm:k∈Sp.cm S.pg:=by
    rw[←hk,List.getD_eq_getElem?_getD,List.getElem?_eq_getElem hj];exact List.getElem_mem hj
   obtain⟨c',l,hpg⟩:=Sp.eG.mp hkm
   obtain⟨hc',hll⟩:=hw.small _ _ _ hpg
   have hklt:=aV hpg
   refine bJ hro h0 (by rw[hrn];exact h) fun a0 ha=> ?_
   refine bZ (j:=j.toNat) (x:=(k:Int)) ha hro (by rintro b o rfl;simp[af]) ?_ ?_
   ·rw[List.getD_eq_getElem?_getD,List.getElem?_eq_getElem hj]at hk
    simp only[Option.getD_some]at hk
    rw[List.getElem?_map,List.getElem?_map,List.getElem?_eq_getElem hj,hk];rfl
   clear hS hL nS nL hkl hr ls ll
   refine ah (aF.op tk fun pa pp ms ml ls ll hS hL nS nL=> ?_)
   refine ai (k:= .map) (x:=some ms) (by rw[af]) tk rfl ?_
   refine mI (kd:= .ptr) (g:=gS) (z0:=none) Di uI EO Ds tk ?_
   obtain⟨q,hq⟩:=hS.get nS hpg
   rw[hq]
   obtain⟨l1,l2,hl12,_,_⟩:=gP hq
   subst hl12
   refine Tr.Dy (P:=lC) tk ?_
   refine ae (dz q l (Sp.sz c')) (aI.cons .here .nil) ?_
   rintro x M ⟨rfl,rfl⟩
   try simp only[aq,al]
   have hz':=Sp.cZ hc'
   have hl32:l.length≤32:=by rw[hll];rcases hz' with ⟨_,e⟩|⟨_,e⟩|⟨_,e⟩|⟨_,e⟩|⟨_,e⟩<;>rw[e]<;>decide
   rw[List.find?_cons]at hf
   have hQ:Sp.lg S.pg c k=(c'==c&& !decide (l.count true=l.length)):=by unfold Sp.lg;rw[hpg]
   rw[hQ]at hf
   have w1:IntKind.wrap .i64 (j+1)=j+1:=wrap64 (by omega) (by omega)
   refine aj (fun h2=> ?_) (fun h2=> ?_)
   ·replace h2:(Sp.sz c':Int)=Sp.sz c:=by simpa using h2
    have hcc:c'=c:=DZ hc' hc (by omega)
    refine ae (vD q l (Sp.sz c') hl32) (aI.cons .here .nil) ?_
    rintro x M ⟨rfl,rfl⟩
    try simp only[aq,al]
    refine Tr.close (M:=[bF q l (Sp.sz c'),star ((l1++l2).map lC)]) ag (eW (k:Int) (q:=q) (c:=c') (l:=l)) ?_
    refine aj (fun h3=> ?_) (fun h3=> ?_)
    ·have h3:decide (l.count true=l.length)=false:=by simpa using h3
     rw[h3,hcc]at hf
     simp only[beq_self_eq_true,Bool.not_false,Bool.and_self]at hf
     rw[hf]
     refine Tr.close ag (aF.cl (p:=p) (pa:=pa) (pp:=pp) (ms:=ms) (ml:=ml) hS hL) ?_
     exact aa (x:=((k:Int),true,())) rfl ⟨rfl,rfl⟩ ag aB
    ·have h3:decide (l.count true=l.length)=true:=by simpa using h3
     rw[h3]at hf
     simp only[Bool.not_true,Bool.and_false]at hf
     rw[w1]
     refine Tr.close ag (aF.cl (p:=p) (pa:=pa) (pp:=pp) (ms:=ms) (ml:=ml) hS hL) ?_
     exact hX _ _ _ (by omega) ⟨rfl,by dsimp only;omega,by dsimp only;omega,rfl,by dsimp only;rw[hf,show(j+1).toNat=j.toNat+1 by omega]⟩
   ·replace h2:¬(Sp.sz c':Int)=Sp.sz c:=by simpa using h2
    have hcc:(c'==c)=false:=by rw[beq_eq_false_iff_ne];rintro rfl;exact h2 rfl
    rw[hcc]at hf
    simp only[Bool.false_and]at hf
    rw[w1]
    refine Tr.close (M:=[bF q l (Sp.sz c'),star ((l1++l2).map lC)]) ag (eW (k:Int) (q:=q) (c:=c') (l:=l)) ?_
    refine Tr.close ag (aF.cl (p:=p) (pa:=pa) (pp:=pp) (ms:=ms) (ml:=ml) hS hL) ?_
    exact hX _ _ _ (by omega) ⟨rfl,by dsimp only;omega,by dsimp only;omega,rfl,by dsimp only;rw[hf,show(j+1).toNat=j.toNat+1 by omega]⟩
  ·replace h:¬j<(r.n:Int):=of_decide_eq_false h
   rw[List.drop_eq_nil_of_le (by omega)]at hf
   rw[hf]
   exact aa (x:=((0:Int),false,())) rfl ⟨rfl,rfl⟩ ag aB
end Go.Proofs.YtfepdmpplahloaaGreat
namespace Go.Proofs.YtfepdmpplahloaaGreat
open Go Go.Gl
variable{ρ0 ρ:FR}{L L':List aA}{Post:Value→List aA→Prop}{T:Tree}
theorem Sp.tp{pg:List Pg}{c p:Nat}(h:Sp.iW pg c=some p):∃l,pg[p]? =some (.small c l)∧l.count true≠l.length:=by
 have:=List.find?_some h
 change Sp.lg pg c p=true at this
 unfold Sp.lg at this
 split at this
 ·rename_i c' l hp
  simp at this
  exact⟨l,by rw[hp,this.1],by simpa using this.2⟩
 ·cases this
theorem mo{a b:List Bool}(hl:a.length=b.length)(h:∀j,j<a.length→a.getD j false=b.getD j false):a=b:=by
 apply List.ext_getElem hl
 intro j h1 h2
 have:=h j h1
 rw[List.getD_eq_getElem?_getD,List.getD_eq_getElem?_getD,List.getElem?_eq_getElem h1,List.getElem?_eq_getElem h2]at this
 exact this
theorem cr{pg:List Pg}{j:Nat}:(pg.map Pg.taken).getD j false=(pg.getD j .free).taken:=by
 rw[List.getD_eq_getElem?_getD,List.getD_eq_getElem?_getD,List.getElem?_map]
 cases pg[j]? <;>rfl
theorem jY{pg:List Pg}{k i:Nat}(h:Sp.run (pg.map Pg.taken) k=some i):i+k≤pg.length∧∀j:Nat,i≤j→j<i+k→pg[j]? =some .free:=by
 obtain⟨h1,h2,_⟩:=Sp.zb h
 rw[List.length_map]at h1
 refine⟨h1,fun j g1 g2=> ?_⟩
 have:=Sp.eB.mp h2 j g1 g2
 rw[cr,List.getD_eq_getElem?_getD]at this
 have hj:j<pg.length:=by omega
 rw[List.getElem?_eq_getElem hj]at this⊢
 simp only[Option.getD_some]at this
 revert this
 generalize pg[j]=x
 cases x<;>simp[Pg.taken]
theorem nC{pg:List Pg}{i:Nat}{x:Pg}(hi:i<pg.length):(pg.set i x).map Pg.taken=Sp.oq (pg.map Pg.taken) x.taken i 1:=by
 apply mo
 ·rw[Sp.mB];simp
 ·intro j hj
  simp only[List.length_map,List.length_set]at hj
  rw[Sp.mG (by simpa using hj),cr,cr]
  by_cases hij:i=j
  ·subst hij
   rw[if_pos ⟨by omega,by omega⟩,List.getD_eq_getElem?_getD];simp[hi]
  ·rw[if_neg (by omega),List.getD_eq_getElem?_getD,List.getElem?_set_ne hij,List.getD_eq_getElem?_getD]
theorem cA{pg:List Pg}{i k j:Nat}:(Sp.kD pg i k)[j]? =if j<pg.length then some (if j=i then Pg.head k else if i<j∧j<i+k then .tail else pg.getD j .free)else none:=by
 unfold Sp.kD
 rw[List.getElem?_mapIdx]
 by_cases hj:j<pg.length
 ·rw[if_pos hj,List.getElem?_eq_getElem hj,List.getD_eq_getElem?_getD,List.getElem?_eq_getElem hj];rfl
 ·rw[if_neg hj,List.getElem?_eq_none (by omega)];rfl
theorem db{pg:List Pg}{i k j:Nat}:(Sp.fQ pg i k)[j]? =if j<pg.length then some (if i≤j∧j<i+k then Pg.free else pg.getD j .free)else none:=by
 unfold Sp.fQ
 rw[List.getElem?_mapIdx]
 by_cases hj:j<pg.length
 ·rw[if_pos hj,List.getElem?_eq_getElem hj,List.getD_eq_getElem?_getD,List.getElem?_eq_getElem hj];rfl
 ·rw[if_neg hj,List.getElem?_eq_none (by omega)];rfl
theorem iZ{pg:List Pg}{i k:Nat}:(Sp.kD pg i k).length=pg.length:=by simp[Sp.kD]
theorem iD{pg:List Pg}{i k:Nat}:(Sp.fQ pg i k).length=pg.length:=by simp[Sp.fQ]
theorem fI{pg:List Pg}{j:Nat}{x:Pg}(h:pg[j]? =some x):pg.getD j .free=x:=by rw[List.getD_eq_getElem?_getD,h];rfl
theorem kN{pg:List Pg}{j:Nat}(h:j<pg.length):pg[j]? =some (pg.getD j .free):=by rw[List.getD_eq_getElem?_getD,List.getElem?_eq_getElem h];rfl
theorem vB{pg:List Pg}{i k:Nat}(hk:1≤k):(Sp.kD pg i k).map Pg.taken=Sp.oq (pg.map Pg.taken) true i k:=by
 apply mo
 ·rw[Sp.mB];simp[Sp.kD]
 ·intro j hj
  have hj:j<pg.length:=by simpa[Sp.kD]using hj
  rw[Sp.mG (by simpa using hj),cr,cr]
  rw[List.getD_eq_getElem?_getD,cA,if_pos hj]
  by_cases h1:j=i
  ·subst h1;rw[if_pos rfl,if_pos ⟨by omega,by omega⟩];rfl
  ·rw[if_neg h1]
   by_cases h2:i<j∧j<i+k
   ·rw[if_pos h2,if_pos ⟨by omega,by omega⟩];rfl
   ·rw[if_neg h2,if_neg (by omega)];rfl
theorem ua{pg:List Pg}{i k:Nat}:(Sp.fQ pg i k).map Pg.taken=Sp.oq (pg.map Pg.taken) false i k:=by
 apply mo
 ·rw[Sp.mB];simp[Sp.fQ]
 ·intro j hj
  have hj:j<pg.length:=by simpa[Sp.fQ]using hj
  rw[Sp.mG (by simpa using hj),cr,cr]
  rw[List.getD_eq_getElem?_getD,db,if_pos hj]
  by_cases h2:i≤j∧j<i+k
  ·rw[if_pos h2,if_pos h2];rfl
  ·rw[if_neg h2,if_neg h2];rfl
theorem gC{pg:List Pg}{i:Nat}{x:Pg}(h0:∀k,pg[i]? ≠some (.head k))(h1:∀k,x≠.head k)(j:Nat)(k:Nat):pg[j]? =some (.head k)↔(pg.set i x)[j]? =some (.head k):=by
 by_cases hij:i=j
 ·subst hij
  rw[List.getElem?_set]
  constructor
  ·intro h;exact absurd h (h0 k)
  ·intro h;simp at h;exact absurd h.2 (h1 k)
 ·rw[List.getElem?_set_ne hij]
theorem tv(p:Nat)(S:aD)(hw:Wf S)(c:Nat)(hc:c<5):Gl.Spec ρ Tryz.prog 217 [.pointer (some ⟨p,0,none⟩),i64 c] [aF p S] P2
  fun r M=>(∃i,Sp.iW S.pg c=some i∧r=((i:Int),(0:Int),())∧M=[aF p S])∨
   (∃i,Sp.iW S.pg c=none∧Sp.run (S.pg.map Pg.taken) 1=some i∧r=((i:Int),(0:Int),())∧M=[aF p ⟨S.ws,S.pg.set i (.small c (List.replicate (64/Sp.sz c) false))⟩])∨
   (Sp.iW S.pg c=none∧Sp.run (S.pg.map Pg.taken) 1=none∧r=((0:Int),(3:Int),())∧M=[aF p S]):=by
 have hmost:=hw.gv
 refine Spec.of (fun Q w h=>F.space.bn.first.calls (some ⟨p,0,none⟩) c h) fun R=> ?_
 unfold F.space.bn.first
 try simp only[aq,al]
 refine ae (uU p S hw c hc) ag ?_
 rintro x M ⟨rfl,rfl⟩
 try simp only[aq,al]
 cases ho:Sp.iW S.pg c with
 |some i=>
  refine aH rfl ?_
  exact aa (x:=((i:Int),(0:Int),())) rfl (.inl ⟨i,rfl,rfl,rfl⟩) ag aB
 |none=>
  refine ak rfl (ah (aF.op tk fun pa pp ms ml ls ll hS hL nS nL=> ?_))
  refine ai (k:= .ptr) (x:=some ⟨pp,0,none⟩) (by rw[af]) tk rfl ?_
  refine ae (pF pp (S.pg.map Pg.taken) 1 (by omega) (by omega) (by simpa using hmost)) ag ?_
  rintro x M (⟨hr,rfl,rfl⟩|⟨i,hr,rfl,rfl⟩)
  ·try simp only[aq,al]
   refine aH rfl ?_
   refine Tr.close ag (aF.cl (p:=p) (pa:=pa) (pp:=pp) (ms:=ms) (ml:=ml) hS hL) ?_
   exact aa (x:=((0:Int),(3:Int),())) rfl (.inr (.inr ⟨by first |rfl|trivial,hr,rfl,rfl⟩)) ag aB
  ·try simp only[aq,al]
   obtain⟨hi,hfree⟩:=jY hr
   have hfi:=hfree i (by omega) (by omega)
   refine ak rfl ?_
   refine ae (xF c hc) ag ?_
   rintro x M ⟨q,rfl,rfl⟩
   try simp only[aq,al]
   refine ak rfl (ah ?_)
   refine ai (k:= .map) (x:=some ms) (by rw[af]) tk rfl ?_
   refine nf (f:=fS) (a:=((q,c,List.replicate (64/Sp.sz c) false):oO)) Di uI rfl tk ?_
   have hnone:di (i:Int) ls=none:=hS.none fun c' l' h=>by rw[hfi]at h;cases h
   have ou:=hS.set nS (p:=i) (c:=c) (q:=q) (l:=List.replicate (64/Sp.sz c) false) (by omega)
   rw[tH hnone]at ou⊢
   refine Tr.imp (A:=star (ls.map lC)) (A':=star ((ls++([]:List (Int×oO))).map lC)) tk (by simp) ?_
   refine Tr.close (M:=[bF q (List.replicate (64/Sp.sz c) false) (Sp.sz c),star ((ls++([]:List (Int×oO))).map lC)]) ag (eW (i:Int) (q:=q) (c:=c) (l:=List.replicate (64/Sp.sz c) false)) ?_
   rw[show Sp.oq (S.pg.map Pg.taken) true i 1=(S.pg.set i (.small c (List.replicate (64/Sp.sz c) false))).map Pg.taken from(nC (x:= .small c (List.replicate (64/Sp.sz c) false)) (by omega)).symm]
   have hL':cG (S.pg.set i (.small c (List.replicate (64/Sp.sz c) false))) ll:=hL.same (gC (fun k h=>by rw[hfi]at h;cases h) (fun k h=>by cases h))
   refine Tr.close ag (aF.cl (p:=p) (pa:=pa) (pp:=pp) (ms:=ms) (ml:=ml) (S:=⟨S.ws,S.pg.set i (.small c (List.replicate (64/Sp.sz c) false))⟩) ou hL') ?_
   exact aa (x:=((i:Int),(0:Int),())) rfl (.inr (.inl ⟨i,by first |rfl|trivial,hr,rfl,rfl⟩)) ag aB
end Go.Proofs.YtfepdmpplahloaaGreat
namespace Go.Proofs.YtfepdmpplahloaaGreat
open Go Go.Gl
variable{ρ0 ρ:FR}{L L':List aA}{Post:Value→List aA→Prop}{T:Tree}
theorem uq{pg pg':List Pg}{i k:Nat}(hfree:∀j:Nat,i≤j→j<i+k→pg[j]? =some .free)(h1:∀j:Nat,¬(i≤j∧j<i+k)→pg'[j]? =pg[j]?)(h2:∀(j:Nat) c l,i≤j→j<i+k→pg'[j]? ≠some (.small c l))(j:Nat)(c:Nat)(l:List Bool):
  pg[j]? =some (.small c l)↔pg'[j]? =some (.small c l):=by
 by_cases hj:i≤j∧j<i+k
 ·rw[hfree j hj.1 hj.2]
  constructor
  ·intro h;cases h
  ·intro h;exact absurd h (h2 j c l hj.1 hj.2)
 ·rw[h1 j hj]
theorem dn{pg:List Pg}{i k j:Nat}(hk:1≤k)(hj:¬(i≤j∧j<i+k)):(Sp.kD pg i k)[j]? =pg[j]? :=by
 rw[cA]
 by_cases h:j<pg.length
 ·rw[if_pos h,if_neg (by omega),if_neg (by omega),kN h]
 ·rw[if_neg h,List.getElem?_eq_none (by omega)]
theorem dq{pg:List Pg}{i k j:Nat}(hj:¬(i≤j∧j<i+k)):(Sp.fQ pg i k)[j]? =pg[j]? :=by
 rw[db]
 by_cases h:j<pg.length
 ·rw[if_pos h,if_neg hj,kN h]
 ·rw[if_neg h,List.getElem?_eq_none (by omega)]
theorem ig{l:List Bool}(h:l.count true≠l.length):∃k:Nat,Sp.next l 0 false=k∧k<l.length∧l.getD k false=false:=by
 rcases Sp.ft l false 0 with ⟨g1,g2⟩|⟨k,g1,g2,g3,g4,g5⟩
 ·exfalso
  apply h
  rw[List.count_eq_length]
  intro b hb
  obtain⟨j,hj,e⟩:=List.getElem_of_mem hb
  have:=g2 j (by omega) hj
  rw[List.getD_eq_getElem?_getD,List.getElem?_eq_getElem hj,Option.getD_some,e]at this
  cases b with
  |true=>rfl
  |false=>exact absurd rfl this
 ·exact⟨k,by simpa using g1,g3,g4⟩
theorem tx{n:Nat}(h:0<n):∃k:Nat,Sp.next (List.replicate n false) 0 false=k∧k<(List.replicate n false).length∧(List.replicate n false).getD k false=false:=by
 apply ig
 simp[List.count_replicate];omega
theorem Sp.oy{w:Int}(hb:Sp.aw w≠0)(hc:Sp.cls w<0):1≤Sp.jL w∧Sp.jL w≤16∧Sp.aw w=Sp.jL w*64:=by
 have h:=hb
 unfold Sp.aw at h⊢
 rw[if_neg (by omega)]at h⊢
 have:Sp.jL w≠0:=fun e=>h (by rw[e];rfl)
 unfold Sp.jL at this⊢
 split at this
 ·exact absurd rfl this
 ·rename_i hn
  rw[if_neg hn]
  omega
theorem th(p:Nat)(S:aD)(hw:Wf S)(w:Int)(hb:Sp.aw w≠0):Gl.Spec ρ Tryz.prog 195 [.pointer (some ⟨p,0,none⟩),i64 w] [aF p S] P2
  fun r M=>r=((Sp.place S.pg w).1,(Sp.place S.pg w).2.1,())∧M=[aF p ⟨S.ws,(Sp.place S.pg w).2.2⟩]:=by
 have hmost:=hw.gv
 refine Spec.of (fun Q w' h=>F.space.bn.place.calls (some ⟨p,0,none⟩) w h) fun R=> ?_
 unfold F.space.bn.place
 try simp only[aq,al]
 refine ae (lK w) ag ?_
 rintro x M ⟨rfl,rfl⟩
 try simp only[aq,al]
 refine aj (fun h=> ?_) (fun h=> ?_)
 ·replace h:Sp.cls w<0:=of_decide_eq_true h
  obtain⟨k1,k2,_⟩:=Sp.oy hb h
  refine ae (pI w) ag ?_
  rintro x M ⟨rfl,rfl⟩
  try simp only[aq,al]
  obtain⟨k,hk⟩:∃k:Nat,Sp.jL w=k:=⟨(Sp.jL w).toNat,by omega⟩
  have hpl:Sp.place S.pg w=(match Sp.run (S.pg.map Pg.taken) k with |some p=>(((p*64:Nat):Int),0,Sp.kD S.pg p k)|none=>(0,3,S.pg)):=by
   unfold Sp.place;(rw[if_pos h,hk,Int.toNat_natCast]<;>rfl)
  rw[hk]
  refine ah (aF.op tk fun pa pp ms ml ls ll hS hL nS nL=> ?_)
  refine ai (k:= .ptr) (x:=some ⟨pp,0,none⟩) (by rw[af]) tk rfl ?_
  refine ae (pF pp (S.pg.map Pg.taken) k (by omega) (by omega) (by simpa using hmost)) ag ?_
  rintro x M (⟨hr,rfl,rfl⟩|⟨i,hr,rfl,rfl⟩)
  ·try simp only[aq,al]
   rw[hr]at hpl
   rw[hpl]
   refine aH rfl ?_
   refine Tr.close ag (aF.cl (p:=p) (pa:=pa) (pp:=pp) (ms:=ms) (ml:=ml) (S:=⟨S.ws,S.pg⟩) hS hL) ?_
   exact aa (x:=((0:Int),(3:Int),())) rfl ⟨rfl,rfl⟩ ag aB
  ·try simp only[aq,al]
   rw[hr]at hpl
   dsimp only at hpl
   rw[hpl]
   obtain⟨hi,hfree⟩:=jY hr
   refine ak rfl (ah ?_)
   refine ai (k:= .map) (x:=some ml) (by rw[af]) tk rfl ?_
   refine nf (f:=fL) (a:=k) ER uI rfl tk ?_
   have hS':cx (Sp.kD S.pg i k) ls:=hS.same (uq hfree (fun j hj=>dn (by omega) hj) (fun j c l g1 g2 h=>by
    rw[cA]at h
    split at h
    ·split at h
     ·cases h
     ·split at h
      ·cases h
      ·omega
    ·cases h))
   have hL':cG (Sp.kD S.pg i k) (gq (i:Int) k ll):=hL.set nL (by rw[cA,if_pos (by omega),if_pos rfl]) (fun j k' hj=>by
    by_cases hjr:i≤j∧j<i+k
    ·rw[hfree j hjr.1 hjr.2,cA,if_pos (by omega),if_neg hj,if_pos ⟨by omega,by omega⟩]
     constructor<;>intro h<;>cases h
    ·rw[dn (by omega) hjr])
   rw[←vB (by omega)]
   refine Tr.close ag (aF.cl (p:=p) (pa:=pa) (pp:=pp) (ms:=ms) (ml:=ml) (S:=⟨S.ws,Sp.kD S.pg i k⟩) hS' hL') ?_
   rw[wrap64 (by omega) (by omega)]
   refine aa (x:=(((i*64:Nat):Int),(0:Int),())) ?_ ⟨rfl,rfl⟩ ag aB
   simp[RK.val,KD.val,LK.val,iY]
 ·replace h:¬Sp.cls w<0:=of_decide_eq_false h
  have hcc:=Sp.iT w
  obtain⟨c,hc⟩:∃c:Nat,Sp.cls w=c:=⟨(Sp.cls w).toNat,by omega⟩
  have hc5:c<5:=by omega
  have hz:=Sp.cZ hc5
  rw[hc]
  refine ae (tv p S hw c hc5) ag ?_
  intro x M hx
  have key:(x=((0:Int),(3:Int),())∧M=[aF p S]∧Sp.place S.pg w=(0,3,S.pg))∨
    ∃(i:Nat) (l:List Bool) (S1:aD) (k:Nat),x=((i:Int),(0:Int),())∧M=[aF p S1]∧S1.pg[i]? =some (.small c l)∧S1.ws=S.ws∧i<S.pg.length∧l.length≤32∧l.length=64/Sp.sz c∧Sp.next l 0 false=k∧k<l.length∧
     S1.pg.length=S.pg.length∧(∀y,S1.pg.set i y=S.pg.set i y)∧Sp.place S.pg w=Sp.cw S.pg i c l:=by
   have h32:64/Sp.sz c≤32∧0<64/Sp.sz c:=by rcases hz with ⟨_,e⟩|⟨_,e⟩|⟨_,e⟩|⟨_,e⟩|⟨_,e⟩<;>rw[e]<;>decide
   have hpl:Sp.place S.pg w=(match Sp.iW S.pg c with
    |some p=>Sp.cw S.pg p c (Sp.blocks S.pg p)
    |none=>(match Sp.run (S.pg.map Pg.taken) 1 with
     |some p=>Sp.cw S.pg p c (List.replicate (64/Sp.sz c) false)
     |none=>(0,3,S.pg))):=by unfold Sp.place;(rw[if_neg h,hc,Int.toNat_natCast]<;>rfl)
   rcases hx with ⟨i,ho,rfl,rfl⟩|⟨i,ho,hr,rfl,rfl⟩|⟨ho,hr,rfl,rfl⟩
   ·obtain⟨l,hp,hcnt⟩:=Sp.tp ho
    obtain⟨k,g1,g2,_⟩:=ig hcnt
    have hll:=(hw.small _ _ _ hp).2
    refine .inr ⟨i,l,S,k,rfl,rfl,hp,rfl,aV hp,by omega,hll,g1,g2,rfl,fun _=>rfl,?_⟩
    rw[hpl,ho]
    dsimp only
    congr 1
    unfold Sp.blocks
    rw[hp]
   ·obtain⟨hi,_⟩:=jY hr
    obtain⟨k,g1,g2,_⟩:=tx (n:=64/Sp.sz c) h32.2
    refine .inr ⟨i,List.replicate (64/Sp.sz c) false,_,k,rfl,rfl,?_,rfl,by omega,by simpa using h32.1,by simp,g1,g2,by simp,fun y=>by simp,?_⟩
    ·show(S.pg.set i _)[i]? =_
     rw[List.getElem?_set,if_pos rfl,if_pos (by omega)]
    ·rw[hpl,ho,hr]
   ·exact .inl ⟨rfl,rfl,by rw[hpl,ho,hr]⟩
  rcases key with ⟨rfl,rfl,hpl⟩|⟨i,l,S1,k,rfl,rfl,hp,hws,hi,hl32,hll,g1,g2,hsl,ou,hpl⟩
  ·try simp only[aq,al]
   rw[hpl]
   refine aH rfl ?_
   exact aa (x:=((0:Int),(3:Int),())) rfl ⟨rfl,rfl⟩ ag aB
  ·try simp only[aq,al]
   rw[hpl]
   refine ak rfl (ah (aF.op tk fun pa pp ms ml ls ll hS hL nS nL=> ?_))
   refine ai (k:= .map) (x:=some ms) (by rw[af]) tk rfl ?_
   refine mI (kd:= .ptr) (g:=gS) (z0:=none) Di uI EO Ds tk ?_
   obtain⟨q,hq⟩:=hS.get nS hp
   rw[hq]
   have hS2:=hS.set nS (p:=i) (c:=c) (q:=q) (l:=l.set k true) (aV hp)
   obtain⟨l1,l2,hl12,has,_⟩:=gP hq
   rw[has]at hS2
   subst hl12
   refine Tr.Dy (P:=lC) tk ?_
   refine ae (vO q l (Sp.sz c) hl32) (aI.cons .here .nil) ?_
   rintro x M (⟨e1,_⟩|⟨k',e1,e2,rfl,rfl⟩)
   ·rw[g1]at e1;omega
   try simp only[aq,al]
   have hkk:k'=k:=by rw[g1]at e1;omega
   subst hkk
   refine ak rfl (ah ?_)
   refine Tr.close (M:=[bF q (l.set k' true) (Sp.sz c),star ((l1++l2).map lC)]) ag (eW (i:Int) (q:=q) (c:=c) (l:=l.set k' true)) ?_
   refine Tr.imp (A:=IM ms fS (l1++((i:Int),q,c,l)::l2)) (A':=IM ms fS (l1++((i:Int),q,c,l.set k' true)::l2)) tk (IM.ghost (by simp[fS])) ?_
   refine ai (k:= .map) (x:=some ms) (by rw[af]) tk rfl ?_
   refine Tr.keys (b:=ms) (f:=fS) (l:=l1++((i:Int),q,c,l.set k' true)::l2) tk fun nS2=> ?_
   refine mI (kd:= .ptr) (g:=gS) (z0:=none) (l:=l1++((i:Int),q,c,l.set k' true)::l2) Di uI EO Ds tk ?_
   have hq2:di (i:Int) (l1++((i:Int),q,c,l.set k' true)::l2)=some (q,c,l.set k' true):=(mc nS2).mpr (by simp)
   rw[hq2]
   refine Tr.Dy (P:=lC) tk ?_
   refine ae (dz q (l.set k' true) (Sp.sz c)) (aI.cons .here .nil) ?_
   rintro x M ⟨rfl,rfl⟩
   try simp only[aq,al]
   refine Tr.close (M:=[bF q (l.set k' true) (Sp.sz c),star ((l1++l2).map lC)]) ag (eW (i:Int) (q:=q) (c:=c) (l:=l.set k' true)) ?_
   have hL2:cG (S1.pg.set i (.small c (l.set k' true))) ll:=hL.same (gC (fun k h=>by rw[hp]at h;cases h) (fun k h=>by cases h))
   rw[ou]at hS2 hL2
   have htk:S1.pg.map Pg.taken=(S.pg.set i (.small c (l.set k' true))).map Pg.taken:=by
    rw[←ou]
    apply List.ext_getElem?
    intro j
    rw[List.getElem?_map,List.getElem?_map,List.getElem?_set]
    by_cases hij:i=j
    ·subst hij;rw[hp,if_pos rfl,if_pos (aV hp)];rfl
    ·rw[if_neg hij]
   rw[htk,hws]
   have epl:(Sp.cw S.pg i c l).2.2=S.pg.set i (.small c (l.set k' true)):=by unfold Sp.cw;rw[g1,Int.toNat_natCast]
   rw[epl]
   refine Tr.close ag (aF.cl (p:=p) (pa:=pa) (pp:=pp) (ms:=ms) (ml:=ml) (S:=⟨S.ws,S.pg.set i (.small c (l.set k' true))⟩) hS2 hL2) ?_
   have e1:(k':Int)*(Sp.sz c:Int)=((k'*Sp.sz c:Nat):Int):=by simp
   have hb64:k'*Sp.sz c<64:=by
    have:k'<64/Sp.sz c:=by omega
    exact(Nat.lt_div_iff_mul_lt (by omega)).mp this|>fun h=>by omega
   rw[e1]
   have epl1:(Sp.cw S.pg i c l).1=((i*64+k'*Sp.sz c:Nat):Int):=by unfold Sp.cw;rw[g1,Int.toNat_natCast]
   generalize k'*Sp.sz c=dd at hb64 epl1⊢
   rw[wrap64 (n:=(dd:Int)) (by omega) (by omega),wrap64 (n:=(i:Int)*64) (by omega) (by omega),wrap64 (by omega) (by omega)]
   refine aa (x:=(((i*64+dd:Nat):Int),(0:Int),())) ?_ ⟨?_,rfl⟩ ag aB
   ·simp[RK.val,KD.val,LK.val,iY]
   ·rw[epl1];rfl
end Go.Proofs.YtfepdmpplahloaaGreat
