/- Mark Mark2 Mark3 Mark4 Mark5. -/
import Derived.Test.YtfepdmpplahloaaGreatGsLaw5
import Derived.Test.YtfepdmpplahloaaGreatGsEz
import Derived.Test.YtfepdmpplahloaaGreatGsTm
import Derived.Test.YtfepdmpplahloaaGreatGsGraph2
set_option linter.unusedSimpArgs false
set_option linter.unusedVariables false
namespace Go.Proofs.YtfepdmpplahloaaGreat
open Go Go.Gl
variable{ρ0 ρ:FR}{L L':List Asn}{Post:Value→List Asn→Prop}{T:Tree}
namespace Mk
def kid(S:Spc)(a i:Int):Option Int:=if(Ob.get S a i).2=0 then some (Ob.get S a i).1 else none
def kids(S:Spc)(cs:List Cls)(a:Int):List Int:=(Ob.refs S cs a).filterMap (kid S a)
def obj(S:Spc)(a:Int):Prop:=(Ob.head S a).isSome=true
inductive Rch (S:Spc) (cs:List Cls) (R:List Int):Int→Prop
 |root {a:Int} (h:a∈R) (ho:obj S a):Rch S cs R a
 |step {a b:Int} (h:Rch S cs R a) (hb:b∈kids S cs a) (ho:obj S b):Rch S cs R b
structure St where
 m:List Bool
 stk:List Int
 over:Bool
 deep:Int
def push(room:Nat)(l:List Int)(x:Int):List Int:=if l.length<room then l++[x]else l
def one(S:Spc)(room:Nat)(st:St)(x:Int):St:=
 if Sp.has st.m x=true then st else if Ob.head S x=none then st else
  ⟨st.m.set x.toNat true,push room st.stk x,st.over||decide (room≤st.stk.length),if((push room st.stk x).length:Int)>st.deep then((push room st.stk x).length:Int)else st.deep⟩
def fields(S:Spc)(cs:List Cls)(room:Nat)(st:St)(a:Int):St:=(kids S cs a).foldl (one S room) st
structure Closed(S:Spc)(cs:List Cls)(m:List Bool):Prop where
 len:m.length=S.ws.length
 obj:∀a,Sp.has m a=true→Mk.obj S a
 kid:∀a,Sp.has m a=true→∀b∈kids S cs a,Mk.obj S b→Sp.has m b=true
theorem obj_in{S:Spc}{cs:List Cls}(hw:HWf S cs){a:Int}(h:obj S a):0≤a∧a.toNat<S.ws.length:=by
 unfold obj at h
 cases hh:Ob.head S a with
 |none=>rw[hh]at h;cases h
 |some hd=>
  obtain⟨n,w,rfl,_,_,g3,g4,g5⟩:=Ob.head_is hw hh
  have:=Sp.mayH_is g3
  omega
theorem has_set{m:List Bool}{x a:Int}(hx:0≤x)(hl:x.toNat<m.length):Sp.has (m.set x.toNat true) a=(decide (a=x)||Sp.has m a):=by
 unfold Sp.has
 by_cases ha:0≤a
 ·rw[decide_eq_true ha,Bool.true_and,Bool.true_and,List.getD_eq_getElem?_getD,List.getElem?_set]
  by_cases he:x.toNat=a.toNat
  ·rw[if_pos he,if_pos hl,decide_eq_true (by omega)];rfl
  ·rw[if_neg he,decide_eq_false (by omega),Bool.false_or,List.getD_eq_getElem?_getD]
 ·rw[decide_eq_false ha,decide_eq_false (by omega)];rfl
theorem count_set{m:List Bool}{i:Nat}(hl:i<m.length)(h:m.getD i false=false):(m.set i true).count false+1=m.count false:=by
 induction m generalizing i with
 |nil=>simp at hl
 |cons b m ih=>
  cases i with
  |zero=>simp at h;subst h;simp
  |succ i=>
   have:=ih (i:=i) (by simpa using hl) (by simpa using h)
   simp only[List.set_cons_succ,List.count_cons]
   omega
structure Inv(S:Spc)(cs:List Cls)(room:Nat)(m0:List Bool)(T:Int→Prop)(c:Nat)(st:St)(E:List Int):Prop where
 len:st.m.length=S.ws.length
 old:∀a,Sp.has m0 a=true→Sp.has st.m a=true
 new:∀a,Sp.has st.m a=true→Sp.has m0 a=true∨T a
 obj:∀a,Sp.has st.m a=true→Mk.obj S a
 done:st.over=false→∀a,Sp.has st.m a=true→a∈st.stk∨a∈E∨∀b∈kids S cs a,Mk.obj S b→Sp.has st.m b=true
 stk:∀a∈st.stk,Sp.has st.m a=true
 small:st.stk.length≤room
 deep0:0≤st.deep
 deep1:st.deep≤room
 lost:st.over=true→st.m.count false<c
variable{S:Spc}{cs:List Cls}{room:Nat}{m0:List Bool}{R:Int→Prop}{c:Nat}{st:St}{E:List Int}
theorem push_len{l:List Int}{x:Int}(h:l.length≤room):(push room l x).length≤room∧l.length≤(push room l x).length:=by
 unfold push;split<;>simp<;>omega
theorem one_mono(S:Spc)(room:Nat)(st:St)(x:Int){a:Int}(hw:HWf S cs)(hl:st.m.length=S.ws.length)(h:Sp.has st.m a=true):Sp.has (one S room st x).m a=true:=by
 unfold one
 split
 ·exact h
 ·split
  ·exact h
  ·rename_i h1 h2
   have ho:Mk.obj S x:=by unfold Mk.obj;cases hh:Ob.head S x with
    |none=>exact absurd hh h2
    |some y=>rfl
   obtain⟨g1,g2⟩:=obj_in hw ho
   dsimp only
   rw[has_set g1 (by omega),h,Bool.or_true]
theorem one_len(S:Spc)(room:Nat)(st:St)(x:Int):(one S room st x).m.length=st.m.length:=by
 unfold one
 split
 ·rfl
 ·split
  ·rfl
  ·simp
theorem one_has(hw:HWf S cs)(hl:st.m.length=S.ws.length){x:Int}(ho:Mk.obj S x):Sp.has (one S room st x).m x=true:=by
 unfold one
 split
 ·assumption
 ·split
  ·rename_i h2;unfold Mk.obj at ho;rw[h2]at ho;cases ho
  ·obtain⟨g1,g2⟩:=obj_in hw ho
   dsimp only
   rw[has_set g1 (by omega),decide_eq_true rfl];rfl
def todo(st:St):Nat:=2*st.m.count false+st.stk.length
theorem one_todo(hw:HWf S cs)(hl:st.m.length=S.ws.length)(x:Int):todo (one S room st x)≤todo st:=by
 unfold one
 split
 ·exact Nat.le_refl _
 ·split
  ·exact Nat.le_refl _
  ·rename_i h1 h2
   have ho:Mk.obj S x:=by unfold Mk.obj;cases hh:Ob.head S x with
    |none=>exact absurd hh h2
    |some y=>rfl
   obtain⟨g1,g2⟩:=obj_in hw ho
   have hg:st.m.getD x.toNat false=false:=by
    cases hg:st.m.getD x.toNat false with
    |false=>rfl
    |true=>unfold Sp.has at h1;rw[hg,decide_eq_true g1]at h1;exact absurd rfl h1
   have hc:=count_set (m:=st.m) (i:=x.toNat) (by omega) hg
   unfold todo
   dsimp only
   have:(push room st.stk x).length≤st.stk.length+1:=by unfold push;split<;>simp
   omega
theorem Inv.one(hw:HWf S cs)(H:Inv S cs room m0 R c st E){x:Int}(hx:Mk.obj S x→Sp.has m0 x=true∨R x)(hc:st.m.count false≤c):Inv S cs room m0 R c (Mk.one S room st x) E:=by
 unfold Mk.one
 split
 ·exact H
 ·rename_i h1
  split
  ·exact H
  ·rename_i h2
   have ho:Mk.obj S x:=by unfold Mk.obj;cases hh:Ob.head S x with
    |none=>exact absurd hh h2
    |some y=>rfl
   obtain⟨g1,g2⟩:=obj_in hw ho
   have hl:=H.len
   have hg:st.m.getD x.toNat false=false:=by
    cases hg:st.m.getD x.toNat false with
    |false=>rfl
    |true=>unfold Sp.has at h1;rw[hg,decide_eq_true g1]at h1;exact absurd rfl h1
   have hcnt:=count_set (m:=st.m) (i:=x.toNat) (by omega) hg
   have hhas:∀a,Sp.has (st.m.set x.toNat true) a=(decide (a=x)||Sp.has st.m a):=fun a=>has_set g1 (by omega)
   have hup:∀a,Sp.has st.m a=true→Sp.has (st.m.set x.toNat true) a=true:=fun a h=>by rw[hhas,h,Bool.or_true]
   obtain⟨p1,p2⟩:=push_len (x:=x) H.small
   refine⟨by simp[hl],fun a h=>hup a (H.old a h),fun a h=> ?_,fun a h=> ?_,fun hov a h=> ?_,fun a h=> ?_,p1,?_,?_,fun _=>by dsimp only;omega⟩
   ·dsimp only at h
    rw[hhas,Bool.or_eq_true,decide_eq_true_iff]at h
    rcases h with rfl|h
    ·exact hx ho
    ·exact H.new a h
   ·dsimp only at h
    rw[hhas,Bool.or_eq_true,decide_eq_true_iff]at h
    rcases h with rfl|h
    ·exact ho
    ·exact H.obj a h
   ·dsimp only at hov h⊢
    rw[Bool.or_eq_false_iff,decide_eq_false_iff_not]at hov
    have hpush:push room st.stk x=st.stk++[x]:=by unfold push;rw[if_pos (by omega)]
    rw[hpush]
    rw[hhas,Bool.or_eq_true,decide_eq_true_iff]at h
    rcases h with rfl|h
    ·exact .inl (by simp)
    ·rcases H.done hov.1 a h with h'|h'|h'
     ·exact .inl (List.mem_append_left _ h')
     ·exact .inr (.inl h')
     ·exact .inr (.inr fun b hb hob=>hup b (h' b hb hob))
   ·dsimp only at h⊢
    unfold push at h
    split at h
    ·rcases List.mem_append.mp h with h|h
     ·exact hup a (H.stk a h)
     ·rw[hhas,decide_eq_true (by simpa using h)];rfl
    ·exact hup a (H.stk a h)
   ·have:=H.deep0
    dsimp only;split<;>omega
   ·have:=H.deep1
    dsimp only;split<;>omega
theorem one_count(hw:HWf S cs)(hl:st.m.length=S.ws.length)(x:Int):(Mk.one S room st x).m.count false≤st.m.count false:=by
 unfold Mk.one
 split
 ·exact Nat.le_refl _
 ·split
  ·exact Nat.le_refl _
  ·rename_i h1 h2
   have ho:Mk.obj S x:=by unfold Mk.obj;cases hh:Ob.head S x with
    |none=>exact absurd hh h2
    |some y=>rfl
   obtain⟨g1,g2⟩:=obj_in hw ho
   have hg:st.m.getD x.toNat false=false:=by
    cases hg:st.m.getD x.toNat false with
    |false=>rfl
    |true=>unfold Sp.has at h1;rw[hg,decide_eq_true g1]at h1;exact absurd rfl h1
   have hc:=count_set (m:=st.m) (i:=x.toNat) (by omega) hg
   dsimp only;omega
theorem Inv.many(hw:HWf S cs):∀(l:List Int) {st:St},Inv S cs room m0 R c st E→(∀x∈l,Mk.obj S x→Sp.has m0 x=true∨R x)→st.m.count false≤c→
  Inv S cs room m0 R c (l.foldl (Mk.one S room) st) E∧(l.foldl (Mk.one S room) st).m.count false≤st.m.count false∧todo (l.foldl (Mk.one S room) st)≤todo st∧(∀a,Sp.has st.m a=true→Sp.has (l.foldl (Mk.one S room) st).m a=true)∧∀x∈l,Mk.obj S x→Sp.has (l.foldl (Mk.one S room) st).m x=true
 |[],st,H,_,_=>⟨H,Nat.le_refl _,Nat.le_refl _,fun _ h=>h,by simp⟩
 |x::l,st,H,hx,hc=>by
  have h1:=H.one hw (hx x List.mem_cons_self) hc
  have hc1:=one_count (room:=room) hw H.len x
  obtain⟨i1,i2,i3,i4,i5⟩:=Inv.many hw l h1 (fun y hy=>hx y (List.mem_cons_of_mem _ hy)) (by omega)
  rw[List.foldl_cons]
  refine⟨i1,by omega,Nat.le_trans i3 (one_todo hw H.len x),fun a h=>i4 a (one_mono S room st x hw H.len h),fun y hy ho=> ?_⟩
  rcases List.mem_cons.mp hy with rfl|hy
  ·exact i4 _ (one_has hw H.len ho)
  ·exact i5 y hy ho
theorem Inv.fields(hw:HWf S cs)(hm0:Closed S cs m0)(hR:∀a,R a→∀b∈kids S cs a,Mk.obj S b→R b){a:Int}(H:Inv S cs room m0 R c st (a::E))(ha:Sp.has st.m a=true)(hc:st.m.count false≤c):
  Inv S cs room m0 R c (Mk.fields S cs room st a) E∧(Mk.fields S cs room st a).m.count false≤st.m.count false∧todo (Mk.fields S cs room st a)≤todo st∧∀b,Sp.has st.m b=true→Sp.has (Mk.fields S cs room st a).m b=true:=by
 obtain⟨i1,i2,i3,i4,i5⟩:=Inv.many hw (kids S cs a) H (fun x hx ho=>by
  rcases H.new a ha with h|h
  ·exact .inl (hm0.kid a h x hx ho)
  ·exact .inr (hR a h x hx ho)) hc
 refine⟨⟨i1.len,i1.old,i1.new,i1.obj,fun hov b hb=> ?_,i1.stk,i1.small,i1.deep0,i1.deep1,i1.lost⟩,i2,i3,i4⟩
 rcases i1.done hov b hb with h|h|h
 ·exact .inl h
 ·rcases List.mem_cons.mp h with rfl|h
  ·exact .inr (.inr i5)
  ·exact .inr (.inl h)
 ·exact .inr (.inr h)
theorem Inv.pop{l:List Int}{a:Int}(H:Inv S cs room m0 R c st E)(hs:st.stk=l++[a]):Inv S cs room m0 R c {st with stk:=l} (a::E)∧Sp.has st.m a=true:=by
 refine⟨⟨H.len,H.old,H.new,H.obj,fun hov b hb=> ?_,fun b hb=>H.stk b (by rw[hs];exact List.mem_append_left _ hb),?_,H.deep0,H.deep1,H.lost⟩,H.stk a (by rw[hs];simp)⟩
 ·rcases H.done hov b hb with h|h|h
  ·rw[hs]at h
   rcases List.mem_append.mp h with h|h
   ·exact .inl h
   ·exact .inr (.inl (by simp at h;simp[h]))
  ·exact .inr (.inl (List.mem_cons_of_mem _ h))
  ·exact .inr (.inr h)
 ·have:=H.small
  rw[hs]at this
  simp at this;dsimp only;omega
theorem Inv.over(hm0:Closed S cs m0)(H:Inv S cs room m0 R c st [])(hs:st.stk=[])(ho:st.over=false):Closed S cs st.m:=by
 refine⟨H.len,H.obj,fun a ha=> ?_⟩
 rcases H.done ho a ha with h|h|h
 ·rw[hs]at h;cases h
 ·cases h
 ·exact h
theorem Closed.rch{m:List Bool}{l:List Int}(h:Closed S cs m)(hr:∀a∈l,Mk.obj S a→Sp.has m a=true){a:Int}(ha:Rch S cs l a):Sp.has m a=true:=by
 induction ha with
 |root h' ho=>exact hr _ h' ho
 |step _ hb ho ih=>exact h.kid _ ih _ hb ho
def all(m:List Bool):List Int:=((List.range m.length).filter fun i=>m.getD i false).map fun i:Nat=>(i:Int)
theorem mem_all{m:List Bool}{a:Int}:a∈all m↔Sp.has m a=true:=by
 unfold all Sp.has
 rw[List.mem_map]
 constructor
 ·rintro⟨i,hi,rfl⟩
  rw[List.mem_filter]at hi
  rw[decide_eq_true (by omega),Bool.true_and,Int.toNat_natCast];exact hi.2
 ·intro h
  rw[Bool.and_eq_true,decide_eq_true_iff]at h
  refine⟨a.toNat,?_,by omega⟩
  rw[List.mem_filter,List.mem_range]
  refine⟨?_,h.2⟩
  rcases Nat.lt_or_ge a.toNat m.length with c|c
  ·exact c
  ·have:=h.2;rw[List.getD_eq_getElem?_getD,List.getElem?_eq_none c]at this;cases this
theorem all_len{m:List Bool}:(all m).length≤m.length:=by
 unfold all;rw[List.length_map];exact Nat.le_trans (List.length_filter_le _ _) (by simp)
end Mk
def StkA(p:Nat)(l:List Int)(room:Nat)(over:Bool):Asn:=fun h=>∃s:Slc,star [blk p [.slice s.a s.n s.c,i64 room,.bool over],SLc s 1 (l.map i64)] h
theorem StkA.op{p:Nat}{l:List Int}{room:Nat}{over:Bool}(t:Take L (StkA p l room over) L')(h:∀s:Slc,Tr ρ0 ρ (blk p [.slice s.a s.n s.c,i64 room,.bool over]::SLc s 1 (l.map i64)::L') T Post):Tr ρ0 ρ L T Post:=
 Tr.openL (M:=fun s:Slc=>[blk p [.slice s.a s.n s.c,i64 room,.bool over],SLc s 1 (l.map i64)]) (c:=fun _=>True) t (fun _ ⟨s,h⟩=>⟨s,trivial,h⟩) fun s _=>h s
theorem StkA.cl{p:Nat}{l:List Int}{room:Nat}{over:Bool}{s:Slc}(h:HP)(H:star [blk p [.slice s.a s.n s.c,i64 room,.bool over],SLc s 1 (l.map i64)] h):StkA p l room over h:=⟨s,H⟩
theorem stack_new(n:Int)(h0:1≤n)(h1:n≤4096):Gl.Spec ρ Tryz.prog 35 [i64 n] [] PE fun r M=>∃b,r=(some ⟨b,0,none⟩,0,())∧M=[StkA b [] n.toNat false]:=by
 refine Spec.of (fun Q w h=>F.stack.New.calls n h) fun R=> ?_
 unfold F.stack.New
 try simp only[lca,lna]
 refine en_brf (decide_eq_false (by omega)) (en_brf (decide_eq_false (by omega)) (en_nw fun b=> ?_))
 refine Tr.nilSL 1 ?_
 refine Tr.imp (A:=blk b [.slice none 0 0,.int .i64 n,.bool false]) (A':=blk b [.slice none 0 0,i64 (n.toNat:Nat),.bool false]) tk (fun h H=>by rw[show((n.toNat:Nat):Int)=n by omega];exact H) ?_
 refine Tr.close (M:=[blk b [.slice none 0 0,i64 (n.toNat:Nat),.bool false],SLc ⟨none,0,0⟩ 1 []]) tks (StkA.cl (p:=b) (l:=[]) (room:=n.toNat) (over:=false) (s:=⟨none,0,0⟩)) ?_
 exact en_rets (x:=(some ⟨b,0,none⟩,(0:Int),())) rfl ⟨b,rfl,rfl⟩ tks ens
theorem stack_depth(p:Nat)(l:List Int)(room:Nat)(over:Bool):Gl.Spec ρ Tryz.prog 206 [.pointer (some ⟨p,0,none⟩)] [StkA p l room over] R1 fun r M=>r=(l.length:Nat)∧M=[StkA p l room over]:=by
 refine Spec.of (fun Q w h=>F.stack.Stack.Depth.calls (some ⟨p,0,none⟩) h) fun R=> ?_
 unfold F.stack.Stack.Depth
 try simp only[lca,lna]
 refine en_brf rfl (en_nn (StkA.op tk fun s=> ?_))
 refine en_ld (k:= .slice) (b:=p) (off:=0) (x:=s) (by rw[fa_mk]) tk rfl ?_
 refine Tr.nlen (s:=s) (xs:=l) tk fun hs=> ?_
 refine Tr.close tks (StkA.cl (p:=p) (l:=l) (room:=room) (over:=over) (s:=s)) ?_
 rw[hs]
 exact en_rets (x:=((l.length:Nat):Int)) rfl ⟨rfl,rfl⟩ tks ens
theorem stack_over(p:Nat)(l:List Int)(room:Nat)(over:Bool):Gl.Spec ρ Tryz.prog 177 [.pointer (some ⟨p,0,none⟩)] [StkA p l room over] RB fun r M=>r=over∧M=[StkA p l room over]:=by
 refine Spec.of (fun Q w h=>F.stack.Stack.Over.calls (some ⟨p,0,none⟩) h) fun R=> ?_
 unfold F.stack.Stack.Over
 try simp only[lca,lna]
 refine en_brt rfl (en_nn (StkA.op tk fun s=> ?_))
 refine en_ld (k:= .bool) (b:=p) (off:=2) (x:=over) (by rw[fa_mk]) tk rfl ?_
 refine Tr.close tks (StkA.cl (p:=p) (l:=l) (room:=room) (over:=over) (s:=s)) ?_
 exact en_rets (x:=over) rfl ⟨rfl,rfl⟩ tks ens
theorem stack_reset(p:Nat)(l:List Int)(room:Nat)(over:Bool):Gl.Spec ρ Tryz.prog 178 [.pointer (some ⟨p,0,none⟩)] [StkA p l room over] (.many []) fun r M=>M=[StkA p l room false]:=by
 refine Spec.of (fun Q w h=>F.stack.Stack.Reset.calls (some ⟨p,0,none⟩) h) fun R=> ?_
 unfold F.stack.Stack.Reset
 try simp only[lca,lna]
 refine en_brt rfl (en_nn (StkA.op tk fun s=> ?_))
 refine en_st (b:=p) (off:=2) (by rw[fa_mk]) tk (by simp) rfl ?_
 refine Tr.close (M:=[blk p [.slice s.a s.n s.c,i64 room,.bool false],SLc s 1 (l.map i64)]) tks (StkA.cl (p:=p) (l:=l) (room:=room) (over:=false) (s:=s)) ?_
 exact en_rets (x:=()) rfl rfl tks ens
theorem stack_push(p:Nat)(l:List Int)(room:Nat)(over:Bool)(x:Int)(b:Nat)(hs:RoS ρ ⟨some ⟨b,0,none⟩,1,1⟩ 1 ([x].map i64))(hl:l.length≤room)(hr:room≤4096):Gl.Spec ρ Tryz.prog 205 [.pointer (some ⟨p,0,none⟩),.slice (some ⟨b,0,none⟩) 1 1] [StkA p l room over] R1
  fun _ M=>M=[StkA p (Mk.push room l x) room (over||decide (room≤l.length))]:=by
 refine Spec.of (fun Q w h=>F.stack.Stack.Push.calls (some ⟨p,0,none⟩) ⟨some ⟨b,0,none⟩,1,1⟩ h) fun R=> ?_
 unfold F.stack.Stack.Push
 try simp only[lca,lna]
 refine en_brf rfl (en_drw (en_nn (StkA.op tk fun s=> ?_)))
 refine en_ld (k:= .int .i64) (b:=p) (off:=1) (x:=(room:Int)) (by rw[fa_mk]) tk rfl ?_
 refine en_nn ?_
 refine en_ld (k:= .slice) (b:=p) (off:=0) (x:=s) (by rw[fa_mk]) tk rfl ?_
 refine Tr.nlen (s:=s) (xs:=l) tk fun hsn=> ?_
 rw[wrap64 (n:=(room:Int)-((s.n:Nat):Int)) (by omega) (by omega)]
 refine en_drw (en_held [blk p [.slice s.a s.n s.c,i64 room,.bool over]] tks (en_nn ?_))
 refine en_ldS (k:= .slice) (b:=p) (off:=0) (x:=s) (by rw[fa_mk]) tk rfl ?_
 have fin:∀(v:Int) (l':List Int) (s':Slc) (o:Bool),Mk.push room l x=l'→(over||o)=(over||decide (room≤l.length))→(decide (v<1)=o)→Tr ρ ρ (SLc s' 1 (l'.map i64)::blk p [.slice s.a s.n s.c,i64 room,.bool over]::R)
   (nn (some ⟨p,0,none⟩) fun a10=>st (fa a10 0) [.slice s'.a s'.n s'.c]<|nn (some ⟨p,0,none⟩) fun a11=>ld (.l .bool) (fa a11 2) fun(x12:Bool)=>br x12
    (nn (some ⟨p,0,none⟩) fun a13=>st (fa a13 2) [.bool true]<|ret (.int .i64 v))
    (nn (some ⟨p,0,none⟩) fun a13=>st (fa a13 2) [.bool (decide (v<(((1:Nat):Nat):Int)))]<|ret (.int .i64 v)))
   (SP R1 (fun _ M=>M=[StkA p (Mk.push room l x) room (over||decide (room≤l.length))]) R):=fun v l' s' o h1 h2 h3=>by
  refine en_nn ?_
  refine en_st (b:=p) (off:=0) (by rw[fa_mk]) tk (by simp) rfl (en_nn ?_)
  refine en_ld (k:= .bool) (b:=p) (off:=2) (x:=over) (by rw[fa_mk]) tk rfl ?_
  rw[h1,←h2]
  refine en_br (fun h=> ?_) (fun h=> ?_)
  ·refine en_nn ?_
   refine en_st (b:=p) (off:=2) (by rw[fa_mk]) tk (by simp[setL]) rfl ?_
   rw[h]
   refine Tr.close (M:=[blk p [.slice s'.a s'.n s'.c,i64 room,.bool true],SLc s' 1 (l'.map i64)]) tks (StkA.cl (p:=p) (l:=l') (room:=room) (over:=true) (s:=s')) ?_
   exact en_rets (x:=v) rfl rfl tks ens
  ·refine en_nn ?_
   refine en_st (b:=p) (off:=2) (by rw[fa_mk]) tk (by simp[setL]) rfl ?_
   rw[h]
   have h3':decide (v<(((1:Nat):Nat):Int))=o:=h3
   rw[h3']
   refine Tr.close (M:=[blk p [.slice s'.a s'.n s'.c,i64 room,.bool o],SLc s' 1 (l'.map i64)]) tks (StkA.cl (p:=p) (l:=l') (room:=room) (over:=o) (s:=s')) ?_
   exact en_rets (x:=v) rfl rfl tks ens
 by_cases hc:l.length<room
 ·have e:(if(room:Int)-((s.n:Nat):Int)<(((1:Nat):Nat):Int)then(room:Int)-((s.n:Nat):Int)else(((1:Nat):Nat):Int))=1:=by rw[if_neg (by omega)];rfl
  rw[e]
  refine en_slc (by omega) (by omega) (by omega) ?_
  refine en_appS (s:=s) (x:=⟨some ⟨b,0,none⟩,1,1⟩) (xs:=l) (ys:=[x]) appInt tk (Rd.ro hs) (by simp;omega) fun r hr=> ?_
  exact fin 1 (l++[x]) r false (by unfold Mk.push;rw[if_pos hc]) (by rw[decide_eq_false (by omega)]) rfl
 ·have e:(if(room:Int)-((s.n:Nat):Int)<(((1:Nat):Nat):Int)then(room:Int)-((s.n:Nat):Int)else(((1:Nat):Nat):Int))=0:=by rw[if_pos (by omega)];omega
  rw[e]
  refine en_slc (by omega) (by omega) (by omega) ?_
  refine en_appS (s:=s) (x:=⟨some ⟨b,0,none⟩,0,1⟩) (xs:=l) (ys:=[]) appInt tk ⟨by simp,fun _ _=> .inl rfl⟩ (by simp;omega) fun r hr=> ?_
  rw[List.append_nil]
  exact fin 0 l r true (by unfold Mk.push;rw[if_neg hc]) (by rw[decide_eq_true (by omega)]) rfl
theorem SLc.shorter{s:Slc}{xs:List Int}{y:Int}(h:HP)(H:SLc s 1 ((xs++[y]).map i64) h):SLc ⟨s.a,xs.length,s.c⟩ 1 (xs.map i64) h:=by
 rcases H with ⟨_,_,_,g,_⟩|⟨b,off,pre,rest,g1,g2,g3,g4,g5,g6⟩
 ·simp at g
 ·right
  simp at g3
  refine⟨b,off,pre,i64 y::rest,g1,g2,by simp,by simp[g4];omega,by dsimp only;omega,?_⟩
  have e:pre++((xs++[y]).map i64++rest)=pre++(xs.map i64++i64 y::rest):=by simp
  rw[←e];exact g6
theorem stack_pop(p:Nat)(l:List Int)(room:Nat)(over:Bool)(hr:l.length<2^40):Gl.Spec ρ Tryz.prog 207 [.pointer (some ⟨p,0,none⟩)] [StkA p l room over] IB
  fun r M=>(l=[]∧r=((0:Int),false,())∧M=[StkA p l room over])∨∃l' a,l=l'++[a]∧r=((a:Int),true,())∧M=[StkA p l' room over]:=by
 refine Spec.of (fun Q w h=>F.stack.Stack.Pop.calls (some ⟨p,0,none⟩) h) fun R=> ?_
 unfold F.stack.Stack.Pop
 try simp only[lca,lna]
 refine en_call (stack_depth p l room over) tks ?_
 rintro x' M ⟨rfl,rfl⟩
 try simp only[lca,lna]
 rcases List.eq_nil_or_concat l with rfl|⟨l',a,e⟩
 ·refine en_brt rfl ?_
  exact en_rets (x:=((0:Int),false,())) rfl (.inl ⟨rfl,rfl,rfl⟩) tks ens
 ·rw[List.concat_eq_append]at e
  subst e
  rw[List.length_append,List.length_singleton]at hr⊢
  refine en_brf (by simp;omega) (en_drw (en_nn (StkA.op tk fun s=> ?_)))
  refine en_ld (k:= .slice) (b:=p) (off:=0) (x:=s) (by rw[fa_mk]) tk rfl ?_
  refine en_nn ?_
  refine en_ld (k:= .slice) (b:=p) (off:=0) (x:=s) (by rw[fa_mk]) tk rfl ?_
  refine Tr.sl_len (s:=s) (m:=1) (xs:=(l'++[a]).map i64) tk fun hs hsc=> ?_
  simp at hs
  rw[wrap64 (n:=((s.n:Nat):Int)-1) (by omega) (by omega)]
  refine en_getSL (s:=s) (xs:=l'++[a]) tk (by omega) (by simp;omega) ?_
  rw[show(((s.n:Nat):Int)-1).toNat=l'.length by omega]
  have hg:(l'++[a]).getD l'.length 0=a:=by rw[List.getD_eq_getElem?_getD,List.getElem?_append_right (Nat.le_refl _),Nat.sub_self];rfl
  rw[hg]
  refine en_drw (en_nn ?_)
  refine en_ld (k:= .slice) (b:=p) (off:=0) (x:=s) (by rw[fa_mk]) tk rfl ?_
  refine en_nn ?_
  refine en_ld (k:= .slice) (b:=p) (off:=0) (x:=s) (by rw[fa_mk]) tk rfl ?_
  rw[wrap64 (n:=((s.n:Nat):Int)-1) (by omega) (by omega)]
  refine en_slc (by omega) (by omega) (by omega) ?_
  refine en_nn ?_
  have e1:(if s.c=(0:Int).toNat then s.a else s.a.map fun b=>fa b ((0:Int).toNat*1))=s.a:=by
   split
   ·rfl
   ·cases s.a<;>rfl
  have e2:(((s.n:Nat):Int)-1).toNat-(0:Int).toNat=l'.length:=by rw[show(0:Int).toNat=0 from rfl];omega
  rw[e1,e2,show s.c-(0:Int).toNat=s.c from rfl]
  refine en_st (b:=p) (off:=0) (by rw[fa_mk]) tk (by simp) rfl ?_
  refine Tr.imp (A:=SLc s 1 ((l'++[a]).map i64)) (A':=SLc ⟨s.a,l'.length,s.c⟩ 1 (l'.map i64)) tk SLc.shorter ?_
  refine Tr.close (M:=[blk p [.slice s.a l'.length s.c,i64 room,.bool over],SLc ⟨s.a,l'.length,s.c⟩ 1 (l'.map i64)]) tks (StkA.cl (p:=p) (l:=l') (room:=room) (over:=over) (s:=⟨s.a,l'.length,s.c⟩)) ?_
  exact en_rets (x:=((a:Int),true,())) rfl (.inr ⟨l',a,rfl,rfl,rfl⟩) tks ens
end Go.Proofs.YtfepdmpplahloaaGreat
namespace Go.Proofs.YtfepdmpplahloaaGreat
open Go Go.Gl
variable{ρ0 ρ:FR}{L L':List Asn}{Post:Value→List Asn→Prop}{T:Tree}
def TrA(t ph room:Nat)(q:Mk.St):Asn:=fun h=>∃i:Nat×Nat,star [blk t [.pointer (some ⟨i.1,0,none⟩),.pointer (some ⟨ph,0,none⟩),.pointer (some ⟨i.2,0,none⟩),i64 q.deep],BitsA i.1 q.m,StkA i.2 q.stk room q.over] h
theorem TrA.op{t ph room:Nat}{q:Mk.St}(k:Take L (TrA t ph room q) L')(h:∀pb ps:Nat,Tr ρ0 ρ (blk t [.pointer (some ⟨pb,0,none⟩),.pointer (some ⟨ph,0,none⟩),.pointer (some ⟨ps,0,none⟩),i64 q.deep]::BitsA pb q.m::StkA ps q.stk room q.over::L') T Post):Tr ρ0 ρ L T Post:=
 Tr.openL (M:=fun i:Nat×Nat=>[blk t [.pointer (some ⟨i.1,0,none⟩),.pointer (some ⟨ph,0,none⟩),.pointer (some ⟨i.2,0,none⟩),i64 q.deep],BitsA i.1 q.m,StkA i.2 q.stk room q.over]) (c:=fun _=>True) k (fun _ ⟨i,h⟩=>⟨i,trivial,h⟩) fun i _=>h i.1 i.2
theorem TrA.cl{t ph room pb ps:Nat}{m:List Bool}{stk:List Int}{over:Bool}{deep:Int}(h:HP)(H:star [blk t [.pointer (some ⟨pb,0,none⟩),.pointer (some ⟨ph,0,none⟩),.pointer (some ⟨ps,0,none⟩),i64 deep],BitsA pb m,StkA ps stk room over] h):TrA t ph room ⟨m,stk,over,deep⟩ h:=⟨(pb,ps),H⟩
namespace Mk
structure Ok(S:Spc)(room:Nat)(q:St):Prop where
 len:q.m.length=S.ws.length
 small:q.stk.length≤room
theorem Ok.one{S:Spc}{room:Nat}{q:St}(h:Ok S room q)(x:Int):Ok S room (Mk.one S room q x):=by
 refine⟨by rw[one_len];exact h.len,?_⟩
 unfold Mk.one
 split
 ·exact h.small
 ·split
  ·exact h.small
  ·exact(push_len h.small).1
theorem Ok.many{S:Spc}{room:Nat}:∀(l:List Int) {q:St},Ok S room q→Ok S room (l.foldl (Mk.one S room) q)
 |[],_,h=>h
 |x::l,_,h=>Ok.many l (h.one x)
theorem Inv.ok{S:Spc}{cs:List Cls}{room:Nat}{m0:List Bool}{R:Int→Prop}{c:Nat}{q:St}{E:List Int}(h:Inv S cs room m0 R c q E):Ok S room q:=⟨h.len,h.small⟩
end Mk
theorem mark_one(t ph room:Nat)(hr:room≤4096)(S:Spc)(cs:List Cls)(hw:HWf S cs)(q:Mk.St)(hq:Mk.Ok S room q)(x:Int):Gl.Spec ρ Tryz.prog 175 [.pointer (some ⟨t,0,none⟩),i64 x] [TrA t ph room q,HeapA ph S cs] (.many [])
  fun _ M=>M=[TrA t ph room (Mk.one S room q x),HeapA ph S cs]:=by
 refine Spec.of (fun Q w h=>F.mark.Tracer.one.calls (some ⟨t,0,none⟩) x h) fun R=> ?_
 obtain⟨m,stk,over,deep⟩:=q
 have hlen:=hq.len
 have hsm:=hq.small
 dsimp only at hlen hsm
 unfold F.mark.Tracer.one
 try simp only[lca,lna]
 refine en_nn (TrA.op tk fun pb ps=> ?_)
 dsimp only
 refine en_ld (k:= .ptr) (b:=t) (off:=0) (x:=some ⟨pb,0,none⟩) (by rw[fa_mk]) tk rfl ?_
 refine en_call (bits_has pb m x) tks ?_
 rintro x' M ⟨rfl,rfl⟩
 try simp only[lca,lna]
 refine en_br (fun h=> ?_) (fun h=> ?_)
 ·have e:Mk.one S room ⟨m,stk,over,deep⟩ x=⟨m,stk,over,deep⟩:=by unfold Mk.one;rw[if_pos h]
  rw[e]
  refine Tr.close tks (TrA.cl (t:=t) (ph:=ph) (pb:=pb) (ps:=ps) (m:=m) (stk:=stk) (room:=room) (over:=over) (deep:=deep)) ?_
  exact en_rets (x:=()) rfl rfl tks ens
 ·refine en_nn ?_
  refine en_ld (k:= .ptr) (b:=t) (off:=1) (x:=some ⟨ph,0,none⟩) (by rw[fa_mk]) tk rfl ?_
  refine en_call (object_head ph S cs hw x) tks ?_
  rintro x' M ⟨rfl,rfl⟩
  try simp only[lca,lna]
  refine en_nw fun b7=> ?_
  rw[zcH]
  cases hh:Ob.head S x with
  |none=>
   have e:Mk.one S room ⟨m,stk,over,deep⟩ x=⟨m,stk,over,deep⟩:=by unfold Mk.one;rw[if_neg (by rw[h];simp),if_pos hh]
   rw[e]
   refine en_st (b:=b7) (off:=0) rfl tk (by simp) rfl ?_
   refine en_brt rfl ?_
   refine Tr.close tks (TrA.cl (t:=t) (ph:=ph) (pb:=pb) (ps:=ps) (m:=m) (stk:=stk) (room:=room) (over:=over) (deep:=deep)) ?_
   exact en_rets (x:=()) rfl rfl tks ens
  |some hd=>
   have ho:Mk.obj S x:=by unfold Mk.obj;rw[hh];rfl
   obtain⟨g1,g2⟩:=Mk.obj_in hw ho
   have e:Mk.one S room ⟨m,stk,over,deep⟩ x=⟨m.set x.toNat true,Mk.push room stk x,over||decide (room≤stk.length),if((Mk.push room stk x).length:Int)>deep then((Mk.push room stk x).length:Int)else deep⟩:=by
    unfold Mk.one;rw[if_neg (by rw[h];simp),if_neg (by rw[hh];simp)]
   rw[e]
   refine en_st (b:=b7) (off:=0) rfl tk (by simp) rfl ?_
   refine en_brf rfl (en_nn ?_)
   refine en_ld (k:= .ptr) (b:=t) (off:=0) (x:=some ⟨pb,0,none⟩) (by rw[fa_mk]) tk rfl ?_
   refine en_nw fun b10=> ?_
   refine Rd.bk (n:=1) (m:=1) (vs:=([x]:List Int).map i64) rfl tk fun ρ1 hle1 ro1=> ?_
   refine en_call (bits_set pb m true ⟨some ⟨b10,0,none⟩,1,1⟩ [x] ro1 (by simp)) tks ?_
   rintro x' M ⟨rfl,rfl⟩
   try simp only[lca,lna]
   have hok:Sp.setOk m [x]=true:=by unfold Sp.setOk;simp;omega
   rw[if_pos hok,show Sp.setAll m true [x]=m.set x.toNat true from rfl]
   refine en_nn ?_
   refine en_ld (k:= .ptr) (b:=t) (off:=2) (x:=some ⟨ps,0,none⟩) (by rw[fa_mk]) tk rfl ?_
   refine en_nw fun b14=> ?_
   refine Rd.bk (n:=1) (m:=1) (vs:=([x]:List Int).map i64) rfl tk fun ρ2 hle2 ro2=> ?_
   refine en_call (stack_push ps stk room over x b14 ro2 hsm hr) tks ?_
   rintro r M rfl
   try simp only[lca,lna]
   refine en_drw (en_held [blk t [.pointer (some ⟨pb,0,none⟩),.pointer (some ⟨ph,0,none⟩),.pointer (some ⟨ps,0,none⟩),i64 deep]] tks (en_nn ?_))
   refine en_ldS (k:= .int .i64) (b:=t) (off:=3) (x:=deep) (by rw[fa_mk]) tk rfl ?_
   refine en_nn (en_ldS (k:= .ptr) (b:=t) (off:=2) (x:=some ⟨ps,0,none⟩) (by rw[fa_mk]) tk rfl ?_)
   refine en_call (stack_depth ps (Mk.push room stk x) room (over||decide (room≤stk.length))) tks ?_
   rintro x' M ⟨rfl,rfl⟩
   try simp only[lca,lna]
   refine en_chk tks (en_nn ?_)
   refine en_st (b:=t) (off:=3) (by rw[fa_mk]) tk (by simp) rfl ?_
   refine Tr.close tks (TrA.cl (t:=t) (ph:=ph) (pb:=pb) (ps:=ps) (m:=m.set x.toNat true) (stk:=Mk.push room stk x) (room:=room) (over:=over||decide (room≤stk.length)) (deep:=if((Mk.push room stk x).length:Int)>deep then((Mk.push room stk x).length:Int)else deep)) ?_
   exact en_rets (x:=()) rfl rfl tks ens
theorem refs_len{S:Spc}{cs:List Cls}(hw:HWf S cs)(a:Int):(Ob.refs S cs a).length<2^40:=by
 unfold Ob.refs
 split
 ·simp
 ·rename_i hd hh
  obtain⟨_,_,_,_,_,g,_⟩:=Ob.head_is hw hh
  have:=Sp.mayH_is g
  split
  ·split
   ·rename_i c hc
    have hin:c∈cs:=by
     unfold Sp.clsAt at hc
     split at hc
     ·exact List.mem_of_getElem? hc
     ·cases hc
    have:=hw.refs c hin
    omega
   ·simp
  ·split
   ·unfold Sp.upto;simp;omega
   ·split<;>simp
theorem mark_fields(t ph room:Nat)(hr:room≤4096)(S:Spc)(cs:List Cls)(hw:HWf S cs)(q:Mk.St)(hq:Mk.Ok S room q)(a:Int):Gl.Spec ρ Tryz.prog 179 [.pointer (some ⟨t,0,none⟩),i64 a] [TrA t ph room q,HeapA ph S cs] (.many [])
  fun _ M=>M=[TrA t ph room (Mk.fields S cs room q a),HeapA ph S cs]:=by
 refine Spec.of (fun Q w h=>F.mark.Tracer.fields.calls (some ⟨t,0,none⟩) a h) fun R=> ?_
 unfold F.mark.Tracer.fields
 try simp only[lca,lna]
 refine en_nn (TrA.op tk fun pb ps=> ?_)
 refine en_ld (k:= .ptr) (b:=t) (off:=1) (x:=some ⟨ph,0,none⟩) (by rw[fa_mk]) tk rfl ?_
 refine Tr.close tks (TrA.cl (t:=t) (ph:=ph) (pb:=pb) (ps:=ps) (m:=q.m) (stk:=q.stk) (room:=room) (over:=q.over) (deep:=q.deep)) ?_
 refine en_call (object_refs ph S cs hw a) tks ?_
 rintro r M ⟨hrn,rfl⟩
 try simp only[lca,lna]
 have hrl:=refs_len hw a
 unfold Mk.fields Mk.kids
 generalize Ob.refs S cs a=xs at*
 refine Tr.keepSL (s:=r) tk fun ρ1 hle1 ro=> ?_
 refine Tr.take (A:=TrA t ph room q) tk ?_
 refine en_lp (fun m u M=>(fun(i:Int)=>M=TrA t ph room (((xs.take i.toNat).filterMap (Mk.kid S a)).foldl (Mk.one S room) q)::HeapA ph S cs::R∧0≤i∧i≤xs.length∧m=xs.length-i.toNat) u.1) xs.length ?_ ?_
 ·exact⟨rfl,by simp,by dsimp only;omega,by simp⟩
 ·rintro m ⟨(i:Int),⟨⟩⟩ M ⟨rfl,i0,i1,rfl⟩ X hX
  dsimp only at*
  refine en_br (fun h=> ?_) (fun h=> ?_)
  ·replace h:i<(r.n:Int):=of_decide_eq_true h
   have hi:i.toNat<xs.length:=by omega
   have ht:xs.take (i+1).toNat=xs.take i.toNat++[xs.getD i.toNat 0]:=by rw[show(i+1).toNat=i.toNat+1 by omega,take_succ_getD 0 hi]
   refine en_getRo ro i0 (by omega) ?_
   generalize xs.getD i.toNat 0=f at*
   have hok:=hq.many ((xs.take i.toNat).filterMap (Mk.kid S a))
   have hstep:((xs.take (i+1).toNat).filterMap (Mk.kid S a)).foldl (Mk.one S room) q=if(Ob.get S a f).2=0 then Mk.one S room (((xs.take i.toNat).filterMap (Mk.kid S a)).foldl (Mk.one S room) q) (Ob.get S a f).1 else((xs.take i.toNat).filterMap (Mk.kid S a)).foldl (Mk.one S room) q:=by
    rw[ht,List.filterMap_append,List.foldl_append]
    by_cases hc:(Ob.get S a f).2=0
    ·rw[if_pos hc,show[f].filterMap (Mk.kid S a)=[(Ob.get S a f).1] by simp[Mk.kid,hc]];rfl
    ·rw[if_neg hc,show[f].filterMap (Mk.kid S a)=[] by simp[Mk.kid,hc]];rfl
   generalize((xs.take i.toNat).filterMap (Mk.kid S a)).foldl (Mk.one S room) q=q1 at*
   refine en_nn (TrA.op tk fun pb ps=> ?_)
   refine en_ld (k:= .ptr) (b:=t) (off:=1) (x:=some ⟨ph,0,none⟩) (by rw[fa_mk]) tk rfl ?_
   refine Tr.close tks (TrA.cl (t:=t) (ph:=ph) (pb:=pb) (ps:=ps) (m:=q1.m) (stk:=q1.stk) (room:=room) (over:=q1.over) (deep:=q1.deep)) ?_
   refine en_call (object_get ph S cs hw a f) tks ?_
   rintro x' M ⟨rfl,rfl⟩
   try simp only[lca,lna]
   rw[wrap64 (n:=i+1) (by omega) (by omega)]
   refine en_br (fun h2=> ?_) (fun h2=> ?_)
   ·have h2:(Ob.get S a f).2=0:=eq_of_beq h2
    rw[if_pos h2]at hstep
    refine en_call (mark_one t ph room hr S cs hw q1 hok (Ob.get S a f).1) tks ?_
    rintro x' M rfl
    try simp only[lca,lna]
    refine hX (xs.length-(i+1).toNat) _ _ (by omega) ⟨?_,by dsimp only;omega,by dsimp only;omega,rfl⟩
    dsimp only
    rw[hstep]
   ·have h2:(Ob.get S a f).2≠0:=by simpa using h2
    rw[if_neg h2]at hstep
    refine Tr.take (A:=TrA t ph room q1) tk ?_
    refine hX (xs.length-(i+1).toNat) _ _ (by omega) ⟨?_,by dsimp only;omega,by dsimp only;omega,rfl⟩
    dsimp only
    rw[hstep]
  ·replace h:¬i<(r.n:Int):=of_decide_eq_false h
   rw[List.take_of_length_le (by omega)]
   exact en_rets (x:=()) rfl rfl tks ens
theorem mark_drain(t ph room:Nat)(hr:room≤4096)(S:Spc)(cs:List Cls)(hw:HWf S cs){m0:List Bool}{RR:Int→Prop}{c:Nat}{E:List Int}(hm0:Mk.Closed S cs m0)(hR:∀a,RR a→∀b∈Mk.kids S cs a,Mk.obj S b→RR b)(q:Mk.St)(H:Mk.Inv S cs room m0 RR c q E)(hc:q.m.count false≤c):
  Gl.Spec ρ Tryz.prog 176 [.pointer (some ⟨t,0,none⟩)] [TrA t ph room q,HeapA ph S cs] (.many [])
  fun _ M=>∃q',M=[TrA t ph room q',HeapA ph S cs]∧Mk.Inv S cs room m0 RR c q' E∧q'.stk=[]∧q'.m.count false≤q.m.count false∧∀a,Sp.has q.m a=true→Sp.has q'.m a=true:=by
 refine Spec.of (fun Q w h=>F.mark.Tracer.drain.calls (some ⟨t,0,none⟩) h) fun R=> ?_
 unfold F.mark.Tracer.drain
 try simp only[lca,lna]
 have pop:∀(q1:Mk.St) {k:RT IB→Tree},Mk.Inv S cs room m0 RR c q1 E→
   (q1.stk=[]→Tr ρ ρ (TrA t ph room q1::HeapA ph S cs::R) (k ((0:Int),false,())) (SP (.many []) (fun _ M=>∃q',M=[TrA t ph room q',HeapA ph S cs]∧Mk.Inv S cs room m0 RR c q' E∧q'.stk=[]∧q'.m.count false≤q.m.count false∧∀a,Sp.has q.m a=true→Sp.has q'.m a=true) R))→
   (∀l a,q1.stk=l++[a]→Tr ρ ρ (TrA t ph room {q1 with stk:=l}::HeapA ph S cs::R) (k (a,true,())) (SP (.many []) (fun _ M=>∃q',M=[TrA t ph room q',HeapA ph S cs]∧Mk.Inv S cs room m0 RR c q' E∧q'.stk=[]∧q'.m.count false≤q.m.count false∧∀a,Sp.has q.m a=true→Sp.has q'.m a=true) R))→
   Tr ρ ρ (TrA t ph room q1::HeapA ph S cs::R) (nn (some ⟨t,0,none⟩) fun a1=>ld (.l .ptr) (fa a1 2) fun(x2:Option Addr)=>call Tryz.prog 207 [.pointer x2] IB k) (SP (.many []) (fun _ M=>∃q',M=[TrA t ph room q',HeapA ph S cs]∧Mk.Inv S cs room m0 RR c q' E∧q'.stk=[]∧q'.m.count false≤q.m.count false∧∀a,Sp.has q.m a=true→Sp.has q'.m a=true) R):=fun q1 k H1 h0 h1=>by
  have hsm:=H1.small
  refine en_nn (TrA.op tk fun pb ps=> ?_)
  refine en_ld (k:= .ptr) (b:=t) (off:=2) (x:=some ⟨ps,0,none⟩) (by rw[fa_mk]) tk rfl ?_
  refine en_call (stack_pop ps q1.stk room q1.over (by omega)) tks ?_
  rintro x' M (⟨e1,rfl,rfl⟩|⟨l,a,e1,rfl,rfl⟩)
  ·try simp only[lca,lna]
   refine Tr.close tks (TrA.cl (t:=t) (ph:=ph) (pb:=pb) (ps:=ps) (m:=q1.m) (stk:=q1.stk) (room:=room) (over:=q1.over) (deep:=q1.deep)) ?_
   exact h0 e1
  ·try simp only[lca,lna]
   refine Tr.close tks (TrA.cl (t:=t) (ph:=ph) (pb:=pb) (ps:=ps) (m:=q1.m) (stk:=l) (room:=room) (over:=q1.over) (deep:=q1.deep)) ?_
   exact h1 l a e1
 have htodo:∀(q2:Mk.St) (l:List Int) (a:Int),q2.stk=l++[a]→Mk.todo {q2 with stk:=l}+1=Mk.todo q2:=fun q2 l a e=>by
  unfold Mk.todo;dsimp only;rw[e,List.length_append,List.length_singleton];omega
 refine pop q H ?g1 ?g2
 case' g1=>
  intro e
  refine en_lp (fun m u M=>(fun(at':Int) (ok:Bool)=>∃q1,M=TrA t ph room q1::HeapA ph S cs::R∧m=(if ok=true then Mk.todo q1+1 else 0)∧q1.m.count false≤q.m.count false∧(∀a,Sp.has q.m a=true→Sp.has q1.m a=true)∧
   ((ok=false∧q1.stk=[]∧Mk.Inv S cs room m0 RR c q1 E)∨(ok=true∧Mk.Inv S cs room m0 RR c q1 (at'::E)∧Sp.has q1.m at'=true))) u.1 u.2.1) 0 ⟨q,rfl,rfl,Nat.le_refl _,fun _ h=>h,.inl ⟨rfl,e,H⟩⟩ ?_
 case' g2=>
  intro l a e
  refine en_lp (fun m u M=>(fun(at':Int) (ok:Bool)=>∃q1,M=TrA t ph room q1::HeapA ph S cs::R∧m=(if ok=true then Mk.todo q1+1 else 0)∧q1.m.count false≤q.m.count false∧(∀a,Sp.has q.m a=true→Sp.has q1.m a=true)∧
   ((ok=false∧q1.stk=[]∧Mk.Inv S cs room m0 RR c q1 E)∨(ok=true∧Mk.Inv S cs room m0 RR c q1 (at'::E)∧Sp.has q1.m at'=true))) u.1 u.2.1) (Mk.todo {q with stk:=l}+1) ⟨{q with stk:=l},rfl,rfl,Nat.le_refl _,fun _ h=>h,.inr ⟨rfl,(H.pop e).1,(H.pop e).2⟩⟩ ?_
 all_goals
  rintro m ⟨(at':Int),(ok:Bool),⟨⟩⟩ M ⟨q1,rfl,rfl,hcnt,hmono,hcase⟩ X hX
  dsimp only at hcase hX⊢
  rcases hcase with ⟨rfl,e1,H1⟩|⟨rfl,H1,hat⟩
  ·refine en_brf rfl ?_
   exact en_rets (x:=()) rfl ⟨q1,rfl,H1,e1,hcnt,hmono⟩ tks ens
  ·refine en_brt rfl ?_
   have hok:=H1.ok
   obtain⟨i1,i2,i3,i4⟩:=H1.fields hw hm0 hR hat (by omega)
   refine en_call (mark_fields t ph room hr S cs hw q1 hok at') tks ?_
   rintro x' M rfl
   try simp only[lca,lna]
   generalize Mk.fields S cs room q1 at'=q2 at*
   refine pop q2 i1 (fun e2=> ?_) (fun l2 a2 e2=> ?_)
   ·exact hX 0 _ _ (by simp) ⟨q2,rfl,rfl,by omega,fun a h=>i4 a (hmono a h),.inl ⟨rfl,e2,i1⟩⟩
   ·have:=htodo q2 l2 a2 e2
    exact hX (Mk.todo {q2 with stk:=l2}+1) _ _ (by rw[if_pos rfl];omega) ⟨{q2 with stk:=l2},rfl,rfl,by dsimp only;omega,fun a h=>i4 a (hmono a h),.inr ⟨rfl,(i1.pop e2).1,(i1.pop e2).2⟩⟩
theorem mark_all(t ph room:Nat)(q:Mk.St)(hl:q.m.length≤16384):Gl.Spec ρ Tryz.prog 148 [.pointer (some ⟨t,0,none⟩)] [TrA t ph room q] RS
  fun r M=>M=[SLc r 1 ((Mk.all q.m).map i64),TrA t ph room q]:=by
 refine Spec.of (fun Q w h=>F.mark.Tracer.All.calls (some ⟨t,0,none⟩) h) fun R=> ?_
 unfold F.mark.Tracer.All
 try simp only[lca,lna]
 obtain⟨m,stk,over,deep⟩:=q
 dsimp only at hl⊢
 refine en_brf rfl (en_nn (TrA.op tk fun pb ps=> ?_))
 dsimp only
 refine en_ld (k:= .ptr) (b:=t) (off:=0) (x:=some ⟨pb,0,none⟩) (by rw[fa_mk]) tk rfl ?_
 refine en_call (bits_next pb m 0 true hl) tks ?_
 rintro x' M ⟨rfl,rfl⟩
 try simp only[lca,lna]
 refine Tr.take (A:=blk t [.pointer (some ⟨pb,0,none⟩),.pointer (some ⟨ph,0,none⟩),.pointer (some ⟨ps,0,none⟩),i64 deep]) tk (Tr.nilSL 1 ?_)
 let pt:Nat→List Int:=fun p=>((List.range p).filter fun i=>m.getD i false).map fun i:Nat=>(i:Int)
 have hpt:∀p k:Nat,p≤k→(∀j,p≤j→j<k→m.getD j false≠true)→pt k=pt p:=fun p k hpk hno=>by
  obtain⟨d,rfl⟩:=Nat.exists_eq_add_of_le hpk
  show((List.range (p+d)).filter _).map _=_
  rw[List.range_add,List.filter_append,List.map_append]
  have:(List.map (fun x=>p+x) (List.range d)).filter (fun i=>m.getD i false)=[]:=by
   rw[List.filter_eq_nil_iff]
   intro j hj
   obtain⟨x,hx,rfl⟩:=List.mem_map.mp hj
   rw[List.mem_range]at hx
   exact hno _ (by omega) (by omega)
  rw[this];simp[pt]
 have hpl:∀p,(pt p).length≤p:=fun p=>by
  show(((List.range p).filter _).map _).length≤p
  rw[List.length_map];exact Nat.le_trans (List.length_filter_le _ _) (by simp)
 have hps:∀k,m.getD k false=true→pt (k+1)=pt k++[(k:Int)]:=fun k h=>by
  show((List.range (k+1)).filter _).map _=_
  rw[List.range_succ,List.filter_append,List.map_append,List.filter_cons_of_pos (by exact h)];rfl
 refine en_lp (fun n u M=>(fun(s:Slc) (at':Int)=>∃p:Nat,M=SLc s 1 ((pt p).map i64)::blk t [.pointer (some ⟨pb,0,none⟩),.pointer (some ⟨ph,0,none⟩),.pointer (some ⟨ps,0,none⟩),i64 deep]::BitsA pb m::StkA ps stk room over::R∧at'=Sp.next m p true∧p≤m.length∧n=m.length-p) u.1 u.2.1) m.length ?_ ?_
 ·refine⟨0,?_,rfl,by omega,by simp⟩
  show _=SLc _ 1 (List.map i64 [])::_
  rfl
 ·rintro n ⟨(s:Slc),(at':Int),⟨⟩⟩ M ⟨p,rfl,hat,hp,rfl⟩ X hX
  dsimp only at hat hX⊢
  rcases Sp.next_spec m true p with ⟨g1,g2⟩|⟨k,g1,g2,g3,g4,g5⟩
  ·rw[g1]at hat
   refine en_brf (decide_eq_false (show¬(at':Int)≥0 by omega)) ?_
   have e:pt p=Mk.all m:=by
    show _=pt m.length
    exact(hpt p m.length hp g2).symm
   rw[e]
   refine Tr.close tks (TrA.cl (t:=t) (ph:=ph) (pb:=pb) (ps:=ps) (m:=m) (stk:=stk) (room:=room) (over:=over) (deep:=deep)) ?_
   exact en_rets (x:=s) rfl rfl tks ens
  ·rw[g1]at hat
   refine en_brt (decide_eq_true (show(at':Int)≥0 by omega)) ?_
   have hlp:=hpl p
   refine en_appI (s:=s) (xs:=pt p) appInt tk (by omega) fun r hr=> ?_
   refine en_nn ?_
   refine en_ld (k:= .ptr) (b:=t) (off:=0) (x:=some ⟨pb,0,none⟩) (by rw[fa_mk]) tk rfl ?_
   rw[wrap64 (n:=at'+1) (by omega) (by omega)]
   refine en_call (bits_next pb m (at'+1) true hl) tks ?_
   rintro x' M ⟨rfl,rfl⟩
   try simp only[lca,lna]
   have e:pt p++[at']=pt (k+1):=by rw[hps k g4,hpt p k g2 g5,hat]
   rw[e]
   refine Tr.take (A:=blk t [.pointer (some ⟨pb,0,none⟩),.pointer (some ⟨ph,0,none⟩),.pointer (some ⟨ps,0,none⟩),i64 deep]) tk (Tr.take (A:=SLc r 1 ((pt (k+1)).map i64)) tk ?_)
   refine hX (m.length-(k+1)) _ _ (by omega) ⟨k+1,rfl,?_,by omega,rfl⟩
   rw[hat];rfl
theorem mark_marked(t ph room:Nat)(q:Mk.St)(x:Int):Gl.Spec ρ Tryz.prog 184 [.pointer (some ⟨t,0,none⟩),i64 x] [TrA t ph room q] RB
  fun r M=>r=Sp.has q.m x∧M=[TrA t ph room q]:=by
 refine Spec.of (fun Q w h=>F.mark.Tracer.Marked.calls (some ⟨t,0,none⟩) x h) fun R=> ?_
 unfold F.mark.Tracer.Marked
 try simp only[lca,lna]
 refine en_brt rfl (en_nn (TrA.op tk fun pb ps=> ?_))
 refine en_ld (k:= .ptr) (b:=t) (off:=0) (x:=some ⟨pb,0,none⟩) (by rw[fa_mk]) tk rfl ?_
 refine en_call (bits_has pb q.m x) tks ?_
 rintro x' M ⟨rfl,rfl⟩
 try simp only[lca,lna]
 refine Tr.close tks (TrA.cl (t:=t) (ph:=ph) (pb:=pb) (ps:=ps) (m:=q.m) (stk:=q.stk) (room:=room) (over:=q.over) (deep:=q.deep)) ?_
 exact en_rets (x:=Sp.has q.m x) rfl ⟨rfl,rfl⟩ tks ens
def Mk.st0(n:Nat):Mk.St:=⟨List.replicate n false,[],false,0⟩
theorem mark_new(ph:Nat)(S:Spc)(cs:List Cls)(hw:HWf S cs)(n:Int)(h0:1≤n)(h1:n≤4096):Gl.Spec ρ Tryz.prog 141 [.pointer (some ⟨ph,0,none⟩),i64 n] [HeapA ph S cs] PE
  fun r M=>∃t,r=(some ⟨t,0,none⟩,0,())∧M=[TrA t ph n.toNat (Mk.st0 S.ws.length),HeapA ph S cs]:=by
 refine Spec.of (fun Q w h=>F.mark.New.calls (some ⟨ph,0,none⟩) n h) fun R=> ?_
 unfold F.mark.New
 try simp only[lca,lna]
 have hl:=hw.wf.len
 have hm:=hw.wf.most
 refine en_brf rfl ?_
 refine en_call (stack_new n h0 h1) tks ?_
 rintro x' M ⟨ps,rfl,rfl⟩
 try simp only[lca,lna]
 refine en_brf rfl (en_nn (HeapA.op tk fun p1 pt=> ?_))
 refine en_ld (k:= .ptr) (b:=ph) (off:=0) (x:=some ⟨p1,0,none⟩) (by rw[fa_mk]) tk rfl ?_
 refine en_nn (SpaceA.op tk fun pa pp ms ml ls ll h3 h4 _ _=> ?_)
 refine en_ld (k:= .ptr) (b:=p1) (off:=0) (x:=some ⟨pa,0,none⟩) (by rw[fa_mk]) tk rfl ?_
 refine en_call (arena_len pa S.ws) tks ?_
 rintro x' M ⟨rfl,rfl⟩
 try simp only[lca,lna]
 refine Tr.close tks (SpaceA.cl (p:=p1) (pa:=pa) (pp:=pp) (ms:=ms) (ml:=ml) (S:=S) (ls:=ls) (ll:=ll) h3 h4) ?_
 refine Tr.close tks (HeapA.cl (p:=ph) (ps:=p1) (pt:=pt) (S:=S) (cs:=cs)) ?_
 refine en_call (bits_new (S.ws.length:Nat) (by omega) (by omega)) tks ?_
 rintro x' M ⟨pb,rfl,rfl⟩
 try simp only[lca,lna]
 refine en_brf rfl (en_nw fun t=> ?_)
 rw[Int.toNat_natCast]
 refine Tr.close tks (TrA.cl (t:=t) (ph:=ph) (pb:=pb) (ps:=ps) (m:=List.replicate S.ws.length false) (stk:=[]) (room:=n.toNat) (over:=false) (deep:=0)) ?_
 exact en_rets (x:=(some ⟨t,0,none⟩,(0:Int),())) rfl ⟨t,rfl,rfl⟩ tks ens
theorem Mk.closed0{S:Spc}{cs:List Cls}:Mk.Closed S cs (Mk.st0 S.ws.length).m:=by
 have h:∀a,Sp.has (Mk.st0 S.ws.length).m a=false:=fun a=>by
  unfold Sp.has Mk.st0
  rw[Bool.and_eq_false_iff];right
  rw[List.getD_eq_getElem?_getD,List.getElem?_replicate];split<;>rfl
 exact⟨by simp[Mk.st0],fun a ha=>(by rw[h]at ha;cases ha),fun a ha=>(by rw[h]at ha;cases ha)⟩
theorem Mk.has0{n:Nat}(a:Int):Sp.has (Mk.st0 n).m a=false:=by
 unfold Sp.has Mk.st0
 rw[Bool.and_eq_false_iff];right
 rw[List.getD_eq_getElem?_getD,List.getElem?_replicate];split<;>rfl
structure Mk.Rest(S:Spc)(cs:List Cls)(room:Nat)(q:Mk.St):Prop where
 closed:Mk.Closed S cs q.m
 stk:q.stk=[]
 over:q.over=false
 deep0:0≤q.deep
 deep1:q.deep≤room
theorem Mk.rest0{S:Spc}{cs:List Cls}{room:Nat}:Mk.Rest S cs room (Mk.st0 S.ws.length):=⟨Mk.closed0,rfl,rfl,by simp[Mk.st0],by simp[Mk.st0]⟩
theorem mark_mark(t ph room:Nat)(hr:room≤4096)(S:Spc)(cs:List Cls)(hw:HWf S cs)(q:Mk.St)(H:Mk.Rest S cs room q)(z:Slc)(l:List Int)(ro:RoS ρ z 1 (l.map i64))(hl:l.length<2^40):
  Gl.Spec ρ Tryz.prog 143 [.pointer (some ⟨t,0,none⟩),.slice z.a z.n z.c] [TrA t ph room q,HeapA ph S cs] (.many [])
  fun _ M=>∃q',M=[TrA t ph room q',HeapA ph S cs]∧Mk.Rest S cs room q'∧∀a,Sp.has q'.m a=true↔(Sp.has q.m a=true∨Mk.Rch S cs l a):=by
 refine Spec.of (fun Q w h=>F.mark.Tracer.Mark.calls (some ⟨t,0,none⟩) z h) fun R=> ?_
 unfold F.mark.Tracer.Mark
 try simp only[lca,lna]
 have hzn:=ro.len
 have hwl:=hw.wf.len
 have hwm:=hw.wf.most
 have hm0:=H.closed
 have hR:∀a,Mk.Rch S cs l a→∀b∈Mk.kids S cs a,Mk.obj S b→Mk.Rch S cs l b:=fun a ha b hb ho=> .step ha hb ho
 have hI0:Mk.Inv S cs room q.m (Mk.Rch S cs l) (q.m.count false) q []:=⟨hm0.len,fun _ h=>h,fun _ h=> .inl h,hm0.obj,fun _ a ha=> .inr (.inr (hm0.kid a ha)),fun a ha=>(by rw[H.stk]at ha;cases ha),by rw[H.stk];simp,H.deep0,H.deep1,fun h=>(by rw[H.over]at h;cases h)⟩
 refine en_brf rfl ?_
 refine en_lp (fun m u M=>(fun(i:Int)=>∃q1,M=TrA t ph room q1::HeapA ph S cs::R∧0≤i∧i≤l.length∧m=l.length-i.toNat∧q1.stk=[]∧Mk.Inv S cs room q.m (Mk.Rch S cs l) (q.m.count false) q1 []∧q1.m.count false≤q.m.count false∧∀a∈l.take i.toNat,Mk.obj S a→Sp.has q1.m a=true) u.1) l.length ?_ ?_
 ·exact⟨q,rfl,by simp,by dsimp only;omega,by simp,H.stk,hI0,Nat.le_refl _,by simp⟩
 ·rintro m ⟨(i:Int),⟨⟩⟩ M ⟨q1,rfl,i0,i1,rfl,e1,H1,hc1,hroots⟩ X hX
  dsimp only at hroots hX⊢
  refine en_br (fun h=> ?_) (fun h=> ?_)
  ·replace h:i<(z.n:Int):=of_decide_eq_true h
   have hi:i.toNat<l.length:=by omega
   have hmem:l.getD i.toNat 0∈l:=by rw[List.getD_eq_getElem?_getD,List.getElem?_eq_getElem hi];exact List.getElem_mem hi
   have ht:l.take (i+1).toNat=l.take i.toNat++[l.getD i.toNat 0]:=by rw[show(i+1).toNat=i.toNat+1 by omega,take_succ_getD 0 hi]
   refine en_getRo ro i0 (by omega) ?_
   generalize l.getD i.toNat 0=x at*
   refine en_call (mark_one t ph room hr S cs hw q1 H1.ok x) tks ?_
   rintro x' M rfl
   try simp only[lca,lna]
   have H2:=H1.one hw (x:=x) (fun ho=> .inr (.root hmem ho)) hc1
   have hc2:=Mk.one_count (room:=room) hw H1.len x
   have hmono:∀a,Sp.has q1.m a=true→Sp.has (Mk.one S room q1 x).m a=true:=fun a h=>Mk.one_mono S room q1 x hw H1.len h
   have hx:Mk.obj S x→Sp.has (Mk.one S room q1 x).m x=true:=Mk.one_has hw H1.len
   generalize Mk.one S room q1 x=q2 at*
   refine en_call (mark_drain t ph room hr S cs hw hm0 hR q2 H2 (by omega)) tks ?_
   rintro x' M ⟨q3,rfl,H3,e3,hc3,hmono3⟩
   try simp only[lca,lna]
   rw[wrap64 (n:=i+1) (by omega) (by omega)]
   refine hX (l.length-(i+1).toNat) _ _ (by omega) ⟨q3,rfl,by dsimp only;omega,by dsimp only;omega,rfl,e3,H3,by omega,fun a ha ho=> ?_⟩
   dsimp only at ha
   rw[ht]at ha
   rcases List.mem_append.mp ha with ha|ha
   ·exact hmono3 a (hmono a (hroots a ha ho))
   ·rw[List.mem_singleton]at ha;subst ha
    exact hmono3 a (hx ho)
  ·replace h:¬i<(z.n:Int):=of_decide_eq_false h
   rw[List.take_of_length_le (by omega)]at hroots
   clear hX
   refine en_lp (fun m u M=>∃q1 c,M=TrA t ph room q1::HeapA ph S cs::R∧m=q1.m.count false+(if q1.over=true then 1 else 0)∧q1.stk=[]∧Mk.Inv S cs room q.m (Mk.Rch S cs l) c q1 []∧∀a∈l,Mk.obj S a→Sp.has q1.m a=true) _ ⟨q1,_,rfl,rfl,e1,H1,hroots⟩ ?_
   clear hroots hc1 H1 e1 q1
   rintro m ⟨⟩ M ⟨q1,c,rfl,rfl,e1,H1,hroots⟩ X hX
   refine en_nn (TrA.op tk fun pb ps=> ?_)
   refine en_ld (k:= .ptr) (b:=t) (off:=2) (x:=some ⟨ps,0,none⟩) (by rw[fa_mk]) tk rfl ?_
   refine en_call (stack_over ps q1.stk room q1.over) tks ?_
   rintro x' M ⟨rfl,rfl⟩
   try simp only[lca,lna]
   refine en_br (fun ho=> ?_) (fun ho=> ?_)
   ·refine en_nn ?_
    refine en_ld (k:= .ptr) (b:=t) (off:=2) (x:=some ⟨ps,0,none⟩) (by rw[fa_mk]) tk rfl ?_
    refine en_call (stack_reset ps q1.stk room q1.over) tks ?_
    rintro x' M rfl
    try simp only[lca,lna]
    refine Tr.close tks (TrA.cl (t:=t) (ph:=ph) (pb:=pb) (ps:=ps) (m:=q1.m) (stk:=q1.stk) (room:=room) (over:=false) (deep:=q1.deep)) ?_
    have H2:Mk.Inv S cs room q.m (Mk.Rch S cs l) (q1.m.count false) ⟨q1.m,q1.stk,false,q1.deep⟩ (Mk.all q1.m):=⟨H1.len,H1.old,H1.new,H1.obj,fun _ a ha=> .inr (.inl (Mk.mem_all.mpr ha)),H1.stk,H1.small,H1.deep0,H1.deep1,fun h=>by cases h⟩
    have hlen1:=H1.len
    refine en_call (mark_all t ph room ⟨q1.m,q1.stk,false,q1.deep⟩ (by dsimp only;omega)) tks ?_
    rintro r M rfl
    try simp only[lca,lna]
    have hal:=Mk.all_len (m:=q1.m)
    have hmem:∀a∈Mk.all q1.m,Sp.has q1.m a=true:=fun a ha=>Mk.mem_all.mp ha
    generalize Mk.all q1.m=E at*
    rw[if_pos ho]at hX
    refine Tr.nlen (s:=r) (xs:=E) tk fun hrn=> ?_
    refine Tr.take (A:=HeapA ph S cs) tk (Tr.take (A:=TrA t ph room ⟨q1.m,q1.stk,false,q1.deep⟩) tk ?_)
    refine en_lp (fun m u M=>(fun(i:Int)=>∃q2,M=TrA t ph room q2::HeapA ph S cs::SLc r 1 (E.map i64)::R∧0≤i∧i≤E.length∧m=E.length-i.toNat∧q2.stk=[]∧Mk.Inv S cs room q.m (Mk.Rch S cs l) (q1.m.count false) q2 (E.drop i.toNat)∧q2.m.count false≤q1.m.count false∧∀a,Sp.has q1.m a=true→Sp.has q2.m a=true) u.1) E.length ?_ ?_
    ·exact⟨⟨q1.m,q1.stk,false,q1.deep⟩,rfl,by simp,by dsimp only;omega,by simp,e1,H2,Nat.le_refl _,fun _ h=>h⟩
    ·clear h i0 i1 i
     rintro m ⟨(i:Int),⟨⟩⟩ M ⟨q2,rfl,i0,i1,rfl,e2,H3,hc2,hmono⟩ Y hY
     dsimp only at H3 hY⊢
     refine en_br (fun h=> ?_) (fun h=> ?_)
     ·replace h:i<(r.n:Int):=of_decide_eq_true h
      have hi:i.toNat<E.length:=by omega
      have hin:E.getD i.toNat 0∈E:=by rw[List.getD_eq_getElem?_getD,List.getElem?_eq_getElem hi];exact List.getElem_mem hi
      rw[drop_getD 0 hi]at H3
      refine en_getSL (s:=r) (xs:=E) tk i0 (by omega) ?_
      generalize E.getD i.toNat 0=x at*
      have hx:=hmono x (hmem x hin)
      obtain⟨j1,j2,j3,j4⟩:=H3.fields hw hm0 hR hx (by omega)
      refine en_call (mark_fields t ph room hr S cs hw q2 H3.ok x) tks ?_
      rintro x' M rfl
      try simp only[lca,lna]
      generalize Mk.fields S cs room q2 x=q3 at*
      refine en_call (mark_drain t ph room hr S cs hw hm0 hR q3 j1 (by omega)) tks ?_
      rintro x' M ⟨q4,rfl,H4,e4,hc4,hmono4⟩
      try simp only[lca,lna]
      rw[wrap64 (n:=i+1) (by omega) (by omega)]
      refine hY (E.length-(i+1).toNat) _ _ (by omega) ⟨q4,rfl,by dsimp only;omega,by dsimp only;omega,rfl,e4,?_,by omega,fun a ha=>hmono4 a (j4 a (hmono a ha))⟩
      dsimp only
      rw[show(i+1).toNat=i.toNat+1 by omega];exact H4
     ·replace h:¬i<(r.n:Int):=of_decide_eq_false h
      rw[List.drop_eq_nil_of_le (by omega)]at H3
      refine Tr.drop (A:=SLc r 1 (E.map i64)) tk ?_
      refine hX _ _ _ ?_ ⟨q2,_,rfl,rfl,e2,H3,fun a ha ho=>hmono a (hroots a ha ho)⟩
      split
      ·rename_i ho2
       have:=H3.lost ho2
       omega
      ·omega
   ·refine Tr.close tks (TrA.cl (t:=t) (ph:=ph) (pb:=pb) (ps:=ps) (m:=q1.m) (stk:=q1.stk) (room:=room) (over:=q1.over) (deep:=q1.deep)) ?_
    have hcl:=H1.over hm0 e1 ho
    refine en_rets (x:=()) rfl ⟨q1,rfl,⟨hcl,e1,ho,H1.deep0,H1.deep1⟩,fun a=>⟨H1.new a,?_⟩⟩ tks ens
    rintro(h|h)
    ·exact H1.old a h
    ·exact hcl.rch hroots h
end Go.Proofs.YtfepdmpplahloaaGreat
namespace Go.Proofs.YtfepdmpplahloaaGreat
open Go Go.Gl
variable{ρ0 ρ:FR}{L L':List Asn}{Post:Value→List Asn→Prop}{T:Tree}
end Go.Proofs.YtfepdmpplahloaaGreat
namespace Go.Proofs.YtfepdmpplahloaaGreat
open Go Go.Gl
variable{ρ0 ρ:FR}{L L':List Asn}{Post:Value→List Asn→Prop}{T:Tree}
theorem Mk.mem_kids{S:Spc}{cs:List Cls}{a b:Int}:b∈Mk.kids S cs a↔∃f∈Ob.refs S cs a,(Ob.get S a f).2=0∧(Ob.get S a f).1=b:=by
 unfold Mk.kids
 rw[List.mem_filterMap]
 constructor
 ·rintro⟨f,hf,h⟩
  unfold Mk.kid at h
  split at h
  ·rename_i h0;injection h with h;exact⟨f,hf,h0,h⟩
  ·cases h
 ·rintro⟨f,hf,h0,h⟩
  exact⟨f,hf,by unfold Mk.kid;rw[if_pos h0,h]⟩
theorem Mk.obj_zero{S:Spc}{cs:List Cls}(hw:HWf S cs):¬Mk.obj S 0:=fun h=>by
 unfold Mk.obj at h
 cases hh:Ob.head S 0 with
 |none=>rw[hh]at h;cases h
 |some hd=>
  obtain⟨n,w,e,hf,_⟩:=Ob.head_is hw hh
  have hn:n=0:=by omega
  subst hn
  have h0:=(hw.wf.res 0).mpr rfl
  have hl:=hw.wf.len
  have hp:=hw.wf.pos
  have:=Sp.find_other (S:=S) (n:=0) (by omega) (fun c l h=>by rw[h0]at h;cases h)
  rw[this,Sp.own_no]at hf
  ·cases hf
  ·intro j k hj hc
   have:j=0:=by omega
   subst this
   rw[h0]at hj;cases hj
end Go.Proofs.YtfepdmpplahloaaGreat
namespace Go.Proofs.YtfepdmpplahloaaGreat
open Go Go.Gl
variable{ρ0 ρ:FR}{L L':List Asn}{Post:Value→List Asn→Prop}{T:Tree}
theorem mark_markR{A:List Asn}(t ph room:Nat)(hr:room≤4096)(S:Spc)(cs:List Cls)(hw:HWf S cs)(q:Mk.St)(H:Mk.Rest S cs room q)(z:Slc)(l:List Int)(ro:Rd ρ A z 1 (l.map i64))(hl:l.length<2^40):
  Gl.Spec ρ Tryz.prog 143 [.pointer (some ⟨t,0,none⟩),.slice z.a z.n z.c] (TrA t ph room q::HeapA ph S cs::A) (.many [])
  fun _ M=>∃q',M=TrA t ph room q'::HeapA ph S cs::A∧Mk.Rest S cs room q'∧∀a,Sp.has q'.m a=true↔(Sp.has q.m a=true∨Mk.Rch S cs l a):=by
 refine Spec.of (fun Q w h=>F.mark.Tracer.Mark.calls (some ⟨t,0,none⟩) z h) fun R=> ?_
 unfold F.mark.Tracer.Mark
 try simp only[lca,lna]
 have hzn:=ro.len
 have hwl:=hw.wf.len
 have hwm:=hw.wf.most
 have hm0:=H.closed
 have hR:∀a,Mk.Rch S cs l a→∀b∈Mk.kids S cs a,Mk.obj S b→Mk.Rch S cs l b:=fun a ha b hb ho=> .step ha hb ho
 have hI0:Mk.Inv S cs room q.m (Mk.Rch S cs l) (q.m.count false) q []:=⟨hm0.len,fun _ h=>h,fun _ h=> .inl h,hm0.obj,fun _ a ha=> .inr (.inr (hm0.kid a ha)),fun a ha=>(by rw[H.stk]at ha;cases ha),by rw[H.stk];simp,H.deep0,H.deep1,fun h=>(by rw[H.over]at h;cases h)⟩
 refine en_brf rfl ?_
 refine en_lp (fun m u M=>(fun(i:Int)=>∃q1,M=TrA t ph room q1::HeapA ph S cs::(A++R)∧0≤i∧i≤l.length∧m=l.length-i.toNat∧q1.stk=[]∧Mk.Inv S cs room q.m (Mk.Rch S cs l) (q.m.count false) q1 []∧q1.m.count false≤q.m.count false∧∀a∈l.take i.toNat,Mk.obj S a→Sp.has q1.m a=true) u.1) l.length ?_ ?_
 ·exact⟨q,rfl,by simp,by dsimp only;omega,by simp,H.stk,hI0,Nat.le_refl _,by simp⟩
 ·rintro m ⟨(i:Int),⟨⟩⟩ M ⟨q1,rfl,i0,i1,rfl,e1,H1,hc1,hroots⟩ X hX
  dsimp only at hroots hX⊢
  refine en_br (fun h=> ?_) (fun h=> ?_)
  ·replace h:i<(z.n:Int):=of_decide_eq_true h
   have hi:i.toNat<l.length:=by omega
   have hmem:l.getD i.toNat 0∈l:=by rw[List.getD_eq_getElem?_getD,List.getElem?_eq_getElem hi];exact List.getElem_mem hi
   have ht:l.take (i+1).toNat=l.take i.toNat++[l.getD i.toNat 0]:=by rw[show(i+1).toNat=i.toNat+1 by omega,take_succ_getD 0 hi]
   refine en_getRd ro (Takes.skip1 (Takes.skip1 (Takes.app A R))) i0 (by omega) ?_
   generalize l.getD i.toNat 0=x at*
   refine en_call (mark_one t ph room hr S cs hw q1 H1.ok x) tks ?_
   rintro x' M rfl
   try simp only[lca,lna]
   have H2:=H1.one hw (x:=x) (fun ho=> .inr (.root hmem ho)) hc1
   have hc2:=Mk.one_count (room:=room) hw H1.len x
   have hmono:∀a,Sp.has q1.m a=true→Sp.has (Mk.one S room q1 x).m a=true:=fun a h=>Mk.one_mono S room q1 x hw H1.len h
   have hx:Mk.obj S x→Sp.has (Mk.one S room q1 x).m x=true:=Mk.one_has hw H1.len
   generalize Mk.one S room q1 x=q2 at*
   refine en_call (mark_drain t ph room hr S cs hw hm0 hR q2 H2 (by omega)) tks ?_
   rintro x' M ⟨q3,rfl,H3,e3,hc3,hmono3⟩
   try simp only[lca,lna]
   rw[wrap64 (n:=i+1) (by omega) (by omega)]
   refine hX (l.length-(i+1).toNat) _ _ (by omega) ⟨q3,rfl,by dsimp only;omega,by dsimp only;omega,rfl,e3,H3,by omega,fun a ha ho=> ?_⟩
   dsimp only at ha
   rw[ht]at ha
   rcases List.mem_append.mp ha with ha|ha
   ·exact hmono3 a (hmono a (hroots a ha ho))
   ·rw[List.mem_singleton]at ha;subst ha
    exact hmono3 a (hx ho)
  ·replace h:¬i<(z.n:Int):=of_decide_eq_false h
   rw[List.take_of_length_le (by omega)]at hroots
   clear hX
   refine en_lp (fun m u M=>∃q1 c,M=TrA t ph room q1::HeapA ph S cs::(A++R)∧m=q1.m.count false+(if q1.over=true then 1 else 0)∧q1.stk=[]∧Mk.Inv S cs room q.m (Mk.Rch S cs l) c q1 []∧∀a∈l,Mk.obj S a→Sp.has q1.m a=true) _ ⟨q1,_,rfl,rfl,e1,H1,hroots⟩ ?_
   clear hroots hc1 H1 e1 q1
   rintro m ⟨⟩ M ⟨q1,c,rfl,rfl,e1,H1,hroots⟩ X hX
   refine en_nn (TrA.op tk fun pb ps=> ?_)
   refine en_ld (k:= .ptr) (b:=t) (off:=2) (x:=some ⟨ps,0,none⟩) (by rw[fa_mk]) tk rfl ?_
   refine en_call (stack_over ps q1.stk room q1.over) tks ?_
   rintro x' M ⟨rfl,rfl⟩
   try simp only[lca,lna]
   refine en_br (fun ho=> ?_) (fun ho=> ?_)
   ·refine en_nn ?_
    refine en_ld (k:= .ptr) (b:=t) (off:=2) (x:=some ⟨ps,0,none⟩) (by rw[fa_mk]) tk rfl ?_
    refine en_call (stack_reset ps q1.stk room q1.over) tks ?_
    rintro x' M rfl
    try simp only[lca,lna]
    refine Tr.close tks (TrA.cl (t:=t) (ph:=ph) (pb:=pb) (ps:=ps) (m:=q1.m) (stk:=q1.stk) (room:=room) (over:=false) (deep:=q1.deep)) ?_
    have H2:Mk.Inv S cs room q.m (Mk.Rch S cs l) (q1.m.count false) ⟨q1.m,q1.stk,false,q1.deep⟩ (Mk.all q1.m):=⟨H1.len,H1.old,H1.new,H1.obj,fun _ a ha=> .inr (.inl (Mk.mem_all.mpr ha)),H1.stk,H1.small,H1.deep0,H1.deep1,fun h=>by cases h⟩
    have hlen1:=H1.len
    refine en_call (mark_all t ph room ⟨q1.m,q1.stk,false,q1.deep⟩ (by dsimp only;omega)) tks ?_
    rintro r M rfl
    try simp only[lca,lna]
    have hal:=Mk.all_len (m:=q1.m)
    have hmem:∀a∈Mk.all q1.m,Sp.has q1.m a=true:=fun a ha=>Mk.mem_all.mp ha
    generalize Mk.all q1.m=E at*
    rw[if_pos ho]at hX
    refine Tr.nlen (s:=r) (xs:=E) tk fun hrn=> ?_
    refine Tr.take (A:=HeapA ph S cs) tk (Tr.take (A:=TrA t ph room ⟨q1.m,q1.stk,false,q1.deep⟩) tk ?_)
    refine en_lp (fun m u M=>(fun(i:Int)=>∃q2,M=TrA t ph room q2::HeapA ph S cs::SLc r 1 (E.map i64)::(A++R)∧0≤i∧i≤E.length∧m=E.length-i.toNat∧q2.stk=[]∧Mk.Inv S cs room q.m (Mk.Rch S cs l) (q1.m.count false) q2 (E.drop i.toNat)∧q2.m.count false≤q1.m.count false∧∀a,Sp.has q1.m a=true→Sp.has q2.m a=true) u.1) E.length ?_ ?_
    ·exact⟨⟨q1.m,q1.stk,false,q1.deep⟩,rfl,by simp,by dsimp only;omega,by simp,e1,H2,Nat.le_refl _,fun _ h=>h⟩
    ·clear h i0 i1 i
     rintro m ⟨(i:Int),⟨⟩⟩ M ⟨q2,rfl,i0,i1,rfl,e2,H3,hc2,hmono⟩ Y hY
     dsimp only at H3 hY⊢
     refine en_br (fun h=> ?_) (fun h=> ?_)
     ·replace h:i<(r.n:Int):=of_decide_eq_true h
      have hi:i.toNat<E.length:=by omega
      have hin:E.getD i.toNat 0∈E:=by rw[List.getD_eq_getElem?_getD,List.getElem?_eq_getElem hi];exact List.getElem_mem hi
      rw[drop_getD 0 hi]at H3
      refine en_getSL (s:=r) (xs:=E) tk i0 (by omega) ?_
      generalize E.getD i.toNat 0=x at*
      have hx:=hmono x (hmem x hin)
      obtain⟨j1,j2,j3,j4⟩:=H3.fields hw hm0 hR hx (by omega)
      refine en_call (mark_fields t ph room hr S cs hw q2 H3.ok x) tks ?_
      rintro x' M rfl
      try simp only[lca,lna]
      generalize Mk.fields S cs room q2 x=q3 at*
      refine en_call (mark_drain t ph room hr S cs hw hm0 hR q3 j1 (by omega)) tks ?_
      rintro x' M ⟨q4,rfl,H4,e4,hc4,hmono4⟩
      try simp only[lca,lna]
      rw[wrap64 (n:=i+1) (by omega) (by omega)]
      refine hY (E.length-(i+1).toNat) _ _ (by omega) ⟨q4,rfl,by dsimp only;omega,by dsimp only;omega,rfl,e4,?_,by omega,fun a ha=>hmono4 a (j4 a (hmono a ha))⟩
      dsimp only
      rw[show(i+1).toNat=i.toNat+1 by omega];exact H4
     ·replace h:¬i<(r.n:Int):=of_decide_eq_false h
      rw[List.drop_eq_nil_of_le (by omega)]at H3
      refine Tr.drop (A:=SLc r 1 (E.map i64)) tk ?_
      refine hX _ _ _ ?_ ⟨q2,_,rfl,rfl,e2,H3,fun a ha ho=>hmono a (hroots a ha ho)⟩
      split
      ·rename_i ho2
       have:=H3.lost ho2
       omega
      ·omega
   ·refine Tr.close tks (TrA.cl (t:=t) (ph:=ph) (pb:=pb) (ps:=ps) (m:=q1.m) (stk:=q1.stk) (room:=room) (over:=q1.over) (deep:=q1.deep)) ?_
    have hcl:=H1.over hm0 e1 ho
    refine en_rets (x:=()) rfl ⟨q1,rfl,⟨hcl,e1,ho,H1.deep0,H1.deep1⟩,fun a=>⟨H1.new a,?_⟩⟩ (.cons .here (.cons .here (Takes.app A R))) ens
    rintro(h|h)
    ·exact H1.old a h
    ·exact hcl.rch hroots h
end Go.Proofs.YtfepdmpplahloaaGreat
