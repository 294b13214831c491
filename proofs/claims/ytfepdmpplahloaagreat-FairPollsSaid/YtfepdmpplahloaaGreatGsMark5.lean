/- Mark Mark2 Mark3 Mark4 Mark5. -/
import Derived.Test.YtfepdmpplahloaaGreatGsLaw5
import Derived.Test.YtfepdmpplahloaaGreatGsGraph2
import Derived.Test.YtfepdmpplahloaaGreatGsTm
set_option linter.unusedSimpArgs false
set_option linter.unusedVariables false
namespace Go.Proofs.YtfepdmpplahloaaGreat
open Go Go.Gl
variable{ρ0 ρ:FR}{L L':List aA}{Post:Value→List aA→Prop}{T:Tree}
namespace Mk
def qt(S:aD)(a i:Int):Option Int:=if(Ob.get S a i).2=0 then some (Ob.get S a i).1 else none
def kids(S:aD)(cs:List aS)(a:Int):List Int:=(Ob.refs S cs a).filterMap (qt S a)
def obj(S:aD)(a:Int):Prop:=(Ob.head S a).isSome=true
inductive jM (S:aD) (cs:List aS) (R:List Int):Int→Prop
 |root {a:Int} (h:a∈R) (ho:obj S a):jM S cs R a
 |step {a b:Int} (h:jM S cs R a) (hb:b∈kids S cs a) (ho:obj S b):jM S cs R b
theorem jM.obj{S:aD}{cs:List aS}{R:List Int}{a:Int}(h:jM S cs R a):Mk.obj S a:=by cases h<;>assumption
structure St where
 m:List Bool
 bT:List Int
 over:Bool
 deep:Int
def push(room:Nat)(l:List Int)(x:Int):List Int:=if l.length<room then l++[x]else l
def one(S:aD)(room:Nat)(st:St)(x:Int):St:=
 if Sp.has st.m x=true then st else if Ob.head S x=none then st else
  ⟨st.m.set x.toNat true,push room st.bT x,st.over||decide (room≤st.bT.length),if((push room st.bT x).length:Int)>st.deep then((push room st.bT x).length:Int)else st.deep⟩
def fields(S:aD)(cs:List aS)(room:Nat)(st:St)(a:Int):St:=(kids S cs a).foldl (one S room) st
structure ik(S:aD)(cs:List aS)(m:List Bool):Prop where
 len:m.length=S.ws.length
 obj:∀a,Sp.has m a=true→Mk.obj S a
 qt:∀a,Sp.has m a=true→∀b∈kids S cs a,Mk.obj S b→Sp.has m b=true
theorem lE{S:aD}{cs:List aS}(hw:aO S cs){a:Int}(h:obj S a):0≤a∧a.toNat<S.ws.length:=by
 unfold obj at h
 cases hh:Ob.head S a with
 |none=>rw[hh]at h;cases h
 |some hd=>
  obtain⟨n,w,rfl,_,_,g3,g4,g5⟩:=Ob.bt hw hh
  have:=Sp.bU g3
  omega
theorem gm{m:List Bool}{x a:Int}(hx:0≤x)(hl:x.toNat<m.length):Sp.has (m.set x.toNat true) a=(decide (a=x)||Sp.has m a):=by
 unfold Sp.has
 by_cases ha:0≤a
 ·rw[decide_eq_true ha,Bool.true_and,Bool.true_and,List.getD_eq_getElem?_getD,List.getElem?_set]
  by_cases he:x.toNat=a.toNat
  ·rw[if_pos he,if_pos hl,decide_eq_true (by omega)];rfl
  ·rw[if_neg he,decide_eq_false (by omega),Bool.false_or,List.getD_eq_getElem?_getD]
 ·rw[decide_eq_false ha,decide_eq_false (by omega)];rfl
theorem count_set{m:List Bool}{i:Nat}(hl:i<m.length)(h:m.getD i false=false):(m.set i true).count false+1=m.count false:=by
 induction m generalizing i with
 |nil=>simp at hl
 |cons b m ih=>
  cases i with
  |zero=>simp at h;subst h;simp
  |succ i=>
   have:=ih (i:=i) (by simpa using hl) (by simpa using h)
   simp only[List.set_cons_succ,List.count_cons]
   omega
structure Inv(S:aD)(cs:List aS)(room:Nat)(m0:List Bool)(T:Int→Prop)(c:Nat)(st:St)(E:List Int):Prop where
 len:st.m.length=S.ws.length
 lT:∀a,Sp.has m0 a=true→Sp.has st.m a=true
 new:∀a,Sp.has st.m a=true→Sp.has m0 a=true∨T a
 obj:∀a,Sp.has st.m a=true→Mk.obj S a
 done:st.over=false→∀a,Sp.has st.m a=true→a∈st.bT∨a∈E∨∀b∈kids S cs a,Mk.obj S b→Sp.has st.m b=true
 bT:∀a∈st.bT,Sp.has st.m a=true
 small:st.bT.length≤room
 lr:0≤st.deep
 lq:st.deep≤room
 lost:st.over=true→st.m.count false<c
variable{S:aD}{cs:List aS}{room:Nat}{m0:List Bool}{R:Int→Prop}{c:Nat}{st:St}{E:List Int}
theorem uz{l:List Int}{x:Int}(h:l.length≤room):(push room l x).length≤room∧l.length≤(push room l x).length:=by
 unfold push;split<;>simp<;>omega
theorem ql(S:aD)(room:Nat)(st:St)(x:Int){a:Int}(hw:aO S cs)(hl:st.m.length=S.ws.length)(h:Sp.has st.m a=true):Sp.has (one S room st x).m a=true:=by
 unfold one
 split
 ·exact h
 ·split
  ·exact h
  ·rename_i h1 h2
   have ho:Mk.obj S x:=by unfold Mk.obj;cases hh:Ob.head S x with
    |none=>exact absurd hh h2
    |some y=>rfl
   obtain⟨g1,g2⟩:=lE hw ho
   dsimp only
   rw[gm g1 (by omega),h,Bool.or_true]
theorem B9(S:aD)(room:Nat)(st:St)(x:Int):(one S room st x).m.length=st.m.length:=by
 unfold one
 split
 ·rfl
 ·split
  ·rfl
  ·simp
theorem sc(hw:aO S cs)(hl:st.m.length=S.ws.length){x:Int}(ho:Mk.obj S x):Sp.has (one S room st x).m x=true:=by
 unfold one
 split
 ·assumption
 ·split
  ·rename_i h2;unfold Mk.obj at ho;rw[h2]at ho;cases ho
  ·obtain⟨g1,g2⟩:=lE hw ho
   dsimp only
   rw[gm g1 (by omega),decide_eq_true rfl];rfl
def todo(st:St):Nat:=2*st.m.count false+st.bT.length
theorem yQ(hw:aO S cs)(hl:st.m.length=S.ws.length)(x:Int):todo (one S room st x)≤todo st:=by
 unfold one
 split
 ·exact Nat.le_refl _
 ·split
  ·exact Nat.le_refl _
  ·rename_i h1 h2
   have ho:Mk.obj S x:=by unfold Mk.obj;cases hh:Ob.head S x with
    |none=>exact absurd hh h2
    |some y=>rfl
   obtain⟨g1,g2⟩:=lE hw ho
   have hg:st.m.getD x.toNat false=false:=by
    cases hg:st.m.getD x.toNat false with
    |false=>rfl
    |true=>unfold Sp.has at h1;rw[hg,decide_eq_true g1]at h1;exact absurd rfl h1
   have hc:=count_set (m:=st.m) (i:=x.toNat) (by omega) hg
   unfold todo
   dsimp only
   have:(push room st.bT x).length≤st.bT.length+1:=by unfold push;split<;>simp
   omega
theorem Inv.one(hw:aO S cs)(H:Inv S cs room m0 R c st E){x:Int}(hx:Mk.obj S x→Sp.has m0 x=true∨R x)(hc:st.m.count false≤c):Inv S cs room m0 R c (Mk.one S room st x) E:=by
 unfold Mk.one
 split
 ·exact H
 ·rename_i h1
  split
  ·exact H
  ·rename_i h2
   have ho:Mk.obj S x:=by unfold Mk.obj;cases hh:Ob.head S x with
    |none=>exact absurd hh h2
    |some y=>rfl
   obtain⟨g1,g2⟩:=lE hw ho
   have hl:=H.len
   have hg:st.m.getD x.toNat false=false:=by
    cases hg:st.m.getD x.toNat false with
    |false=>rfl
    |true=>unfold Sp.has at h1;rw[hg,decide_eq_true g1]at h1;exact absurd rfl h1
   have hcnt:=count_set (m:=st.m) (i:=x.toNat) (by omega) hg
   have hhas:∀a,Sp.has (st.m.set x.toNat true) a=(decide (a=x)||Sp.has st.m a):=fun a=>gm g1 (by omega)
   have hup:∀a,Sp.has st.m a=true→Sp.has (st.m.set x.toNat true) a=true:=fun a h=>by rw[hhas,h,Bool.or_true]
   obtain⟨p1,p2⟩:=uz (x:=x) H.small
   refine⟨by simp[hl],fun a h=>hup a (H.lT a h),fun a h=> ?_,fun a h=> ?_,fun hov a h=> ?_,fun a h=> ?_,p1,?_,?_,fun _=>by dsimp only;omega⟩
   ·dsimp only at h
    rw[hhas,Bool.or_eq_true,decide_eq_true_iff]at h
    rcases h with rfl|h
    ·exact hx ho
    ·exact H.new a h
   ·dsimp only at h
    rw[hhas,Bool.or_eq_true,decide_eq_true_iff]at h
    rcases h with rfl|h
    ·exact ho
    ·exact H.obj a h
   ·dsimp only at hov h⊢
    rw[Bool.or_eq_false_iff,decide_eq_false_iff_not]at hov
    have hpush:push room st.bT x=st.bT++[x]:=by unfold push;rw[if_pos (by omega)]
    rw[hpush]
    rw[hhas,Bool.or_eq_true,decide_eq_true_iff]at h
    rcases h with rfl|h
    ·exact .inl (by simp)
    ·rcases H.done hov.1 a h with h'|h'|h'
     ·exact .inl (List.mem_append_left _ h')
     ·exact .inr (.inl h')
     ·exact .inr (.inr fun b hb hob=>hup b (h' b hb hob))
   ·dsimp only at h⊢
    unfold push at h
    split at h
    ·rcases List.mem_append.mp h with h|h
     ·exact hup a (H.bT a h)
     ·rw[hhas,decide_eq_true (by simpa using h)];rfl
    ·exact hup a (H.bT a h)
   ·have:=H.lr
    dsimp only;split<;>omega
   ·have:=H.lq
    dsimp only;split<;>omega
theorem m6(hw:aO S cs)(hl:st.m.length=S.ws.length)(x:Int):(Mk.one S room st x).m.count false≤st.m.count false:=by
 unfold Mk.one
 split
 ·exact Nat.le_refl _
 ·split
  ·exact Nat.le_refl _
  ·rename_i h1 h2
   have ho:Mk.obj S x:=by unfold Mk.obj;cases hh:Ob.head S x with
    |none=>exact absurd hh h2
    |some y=>rfl
   obtain⟨g1,g2⟩:=lE hw ho
   have hg:st.m.getD x.toNat false=false:=by
    cases hg:st.m.getD x.toNat false with
    |false=>rfl
    |true=>unfold Sp.has at h1;rw[hg,decide_eq_true g1]at h1;exact absurd rfl h1
   have hc:=count_set (m:=st.m) (i:=x.toNat) (by omega) hg
   dsimp only;omega
theorem Inv.many(hw:aO S cs):∀(l:List Int) {st:St},Inv S cs room m0 R c st E→(∀x∈l,Mk.obj S x→Sp.has m0 x=true∨R x)→st.m.count false≤c→
  Inv S cs room m0 R c (l.foldl (Mk.one S room) st) E∧(l.foldl (Mk.one S room) st).m.count false≤st.m.count false∧todo (l.foldl (Mk.one S room) st)≤todo st∧(∀a,Sp.has st.m a=true→Sp.has (l.foldl (Mk.one S room) st).m a=true)∧∀x∈l,Mk.obj S x→Sp.has (l.foldl (Mk.one S room) st).m x=true
 |[],st,H,_,_=>⟨H,Nat.le_refl _,Nat.le_refl _,fun _ h=>h,by simp⟩
 |x::l,st,H,hx,hc=>by
  have h1:=H.one hw (hx x List.mem_cons_self) hc
  have hc1:=m6 (room:=room) hw H.len x
  obtain⟨i1,i2,i3,i4,i5⟩:=Inv.many hw l h1 (fun y hy=>hx y (List.mem_cons_of_mem _ hy)) (by omega)
  rw[List.foldl_cons]
  refine⟨i1,by omega,Nat.le_trans i3 (yQ hw H.len x),fun a h=>i4 a (ql S room st x hw H.len h),fun y hy ho=> ?_⟩
  rcases List.mem_cons.mp hy with rfl|hy
  ·exact i4 _ (sc hw H.len ho)
  ·exact i5 y hy ho
theorem Inv.fields(hw:aO S cs)(hm0:ik S cs m0)(hR:∀a,R a→∀b∈kids S cs a,Mk.obj S b→R b){a:Int}(H:Inv S cs room m0 R c st (a::E))(ha:Sp.has st.m a=true)(hc:st.m.count false≤c):
  Inv S cs room m0 R c (Mk.fields S cs room st a) E∧(Mk.fields S cs room st a).m.count false≤st.m.count false∧todo (Mk.fields S cs room st a)≤todo st∧∀b,Sp.has st.m b=true→Sp.has (Mk.fields S cs room st a).m b=true:=by
 obtain⟨i1,i2,i3,i4,i5⟩:=Inv.many hw (kids S cs a) H (fun x hx ho=>by
  rcases H.new a ha with h|h
  ·exact .inl (hm0.qt a h x hx ho)
  ·exact .inr (hR a h x hx ho)) hc
 refine⟨⟨i1.len,i1.lT,i1.new,i1.obj,fun hov b hb=> ?_,i1.bT,i1.small,i1.lr,i1.lq,i1.lost⟩,i2,i3,i4⟩
 rcases i1.done hov b hb with h|h|h
 ·exact .inl h
 ·rcases List.mem_cons.mp h with rfl|h
  ·exact .inr (.inr i5)
  ·exact .inr (.inl h)
 ·exact .inr (.inr h)
theorem Inv.pop{l:List Int}{a:Int}(H:Inv S cs room m0 R c st E)(hs:st.bT=l++[a]):Inv S cs room m0 R c {st with bT:=l} (a::E)∧Sp.has st.m a=true:=by
 refine⟨⟨H.len,H.lT,H.new,H.obj,fun hov b hb=> ?_,fun b hb=>H.bT b (by rw[hs];exact List.mem_append_left _ hb),?_,H.lr,H.lq,H.lost⟩,H.bT a (by rw[hs];simp)⟩
 ·rcases H.done hov b hb with h|h|h
  ·rw[hs]at h
   rcases List.mem_append.mp h with h|h
   ·exact .inl h
   ·exact .inr (.inl (by simp at h;simp[h]))
  ·exact .inr (.inl (List.mem_cons_of_mem _ h))
  ·exact .inr (.inr h)
 ·have:=H.small
  rw[hs]at this
  simp at this;dsimp only;omega
theorem Inv.over(hm0:ik S cs m0)(H:Inv S cs room m0 R c st [])(hs:st.bT=[])(ho:st.over=false):ik S cs st.m:=by
 refine⟨H.len,H.obj,fun a ha=> ?_⟩
 rcases H.done ho a ha with h|h|h
 ·rw[hs]at h;cases h
 ·cases h
 ·exact h
theorem ik.Fh{m:List Bool}{l:List Int}(h:ik S cs m)(hr:∀a∈l,Mk.obj S a→Sp.has m a=true){a:Int}(ha:jM S cs l a):Sp.has m a=true:=by
 induction ha with
 |root h' ho=>exact hr _ h' ho
 |step _ hb ho ih=>exact h.qt _ ih _ hb ho
def all(m:List Bool):List Int:=((List.range m.length).filter fun i=>m.getD i false).map fun i:Nat=>(i:Int)
theorem fE{m:List Bool}{a:Int}:a∈all m↔Sp.has m a=true:=by
 unfold all Sp.has
 rw[List.mem_map]
 constructor
 ·rintro⟨i,hi,rfl⟩
  rw[List.mem_filter]at hi
  rw[decide_eq_true (by omega),Bool.true_and,Int.toNat_natCast];exact hi.2
 ·intro h
  rw[Bool.and_eq_true,decide_eq_true_iff]at h
  refine⟨a.toNat,?_,by omega⟩
  rw[List.mem_filter,List.mem_range]
  refine⟨?_,h.2⟩
  rcases Nat.lt_or_ge a.toNat m.length with c|c
  ·exact c
  ·have:=h.2;rw[List.getD_eq_getElem?_getD,List.getElem?_eq_none c]at this;cases this
theorem fF{m:List Bool}:(all m).length≤m.length:=by
 unfold all;rw[List.length_map];exact Nat.le_trans (List.length_filter_le _ _) (by simp)
end Mk
def dF(p:Nat)(l:List Int)(room:Nat)(over:Bool):aA:=fun h=>∃s:ay,star [aw p [.slice s.a s.n s.c,i64 room,.bool over],aE s 1 (l.map i64)] h
theorem dF.op{p:Nat}{l:List Int}{room:Nat}{over:Bool}(t:Take L (dF p l room over) L')(h:∀s:ay,Tr ρ0 ρ (aw p [.slice s.a s.n s.c,i64 room,.bool over]::aE s 1 (l.map i64)::L') T Post):Tr ρ0 ρ L T Post:=
 Tr.gh (M:=fun s:ay=>[aw p [.slice s.a s.n s.c,i64 room,.bool over],aE s 1 (l.map i64)]) (c:=fun _=>True) t (fun _ ⟨s,h⟩=>⟨s,trivial,h⟩) fun s _=>h s
theorem dF.cl{p:Nat}{l:List Int}{room:Nat}{over:Bool}{s:ay}(h:HP)(H:star [aw p [.slice s.a s.n s.c,i64 room,.bool over],aE s 1 (l.map i64)] h):dF p l room over h:=⟨s,H⟩
theorem qE(n:Int)(h0:1≤n)(h1:n≤4096):Gl.Spec ρ Tryz.prog 35 [i64 n] [] PE fun r M=>∃b,r=(some ⟨b,0,none⟩,0,())∧M=[dF b [] n.toNat false]:=by
 refine Spec.of (fun Q w h=>F.stack.dc.calls n h) fun R=> ?_
 unfold F.stack.dc
 try simp only[aq,al]
 refine ak (decide_eq_false (by omega)) (ak (decide_eq_false (by omega)) (ax fun b=> ?_))
 refine Tr.cq 1 ?_
 refine Tr.imp (A:=aw b [.slice none 0 0,.int .i64 n,.bool false]) (A':=aw b [.slice none 0 0,i64 (n.toNat:Nat),.bool false]) tk (fun h H=>by rw[show((n.toNat:Nat):Int)=n by omega];exact H) ?_
 refine Tr.close (M:=[aw b [.slice none 0 0,i64 (n.toNat:Nat),.bool false],aE ⟨none,0,0⟩ 1 []]) ag (dF.cl (p:=b) (l:=[]) (room:=n.toNat) (over:=false) (s:=⟨none,0,0⟩)) ?_
 exact aa (x:=(some ⟨b,0,none⟩,(0:Int),())) rfl ⟨b,rfl,rfl⟩ ag aB
theorem nT(p:Nat)(l:List Int)(room:Nat)(over:Bool):Gl.Spec ρ Tryz.prog 206 [.pointer (some ⟨p,0,none⟩)] [dF p l room over] R1 fun r M=>r=(l.length:Nat)∧M=[dF p l room over]:=by
 refine Spec.of (fun Q w h=>F.stack.Stack.w5.calls (some ⟨p,0,none⟩) h) fun R=> ?_
 unfold F.stack.Stack.w5
 try simp only[aq,al]
 refine ak rfl (ah (dF.op tk fun s=> ?_))
 refine ai (k:= .slice) (b:=p) (off:=0) (x:=s) (by rw[af]) tk rfl ?_
 refine Tr.jZ (s:=s) (xs:=l) tk fun hs=> ?_
 refine Tr.close ag (dF.cl (p:=p) (l:=l) (room:=room) (over:=over) (s:=s)) ?_
 rw[hs]
 exact aa (x:=((l.length:Nat):Int)) rfl ⟨rfl,rfl⟩ ag aB
theorem oV(p:Nat)(l:List Int)(room:Nat)(over:Bool):Gl.Spec ρ Tryz.prog 177 [.pointer (some ⟨p,0,none⟩)] [dF p l room over] RB fun r M=>r=over∧M=[dF p l room over]:=by
 refine Spec.of (fun Q w h=>F.stack.Stack.Over.calls (some ⟨p,0,none⟩) h) fun R=> ?_
 unfold F.stack.Stack.Over
 try simp only[aq,al]
 refine aH rfl (ah (dF.op tk fun s=> ?_))
 refine ai (k:= .bool) (b:=p) (off:=2) (x:=over) (by rw[af]) tk rfl ?_
 refine Tr.close ag (dF.cl (p:=p) (l:=l) (room:=room) (over:=over) (s:=s)) ?_
 exact aa (x:=over) rfl ⟨rfl,rfl⟩ ag aB
theorem nU(p:Nat)(l:List Int)(room:Nat)(over:Bool):Gl.Spec ρ Tryz.prog 178 [.pointer (some ⟨p,0,none⟩)] [dF p l room over] (.many []) fun r M=>M=[dF p l room false]:=by
 refine Spec.of (fun Q w h=>F.stack.Stack.wH.calls (some ⟨p,0,none⟩) h) fun R=> ?_
 unfold F.stack.Stack.wH
 try simp only[aq,al]
 refine aH rfl (ah (dF.op tk fun s=> ?_))
 refine aL (b:=p) (off:=2) (by rw[af]) tk (by simp) rfl ?_
 refine Tr.close (M:=[aw p [.slice s.a s.n s.c,i64 room,.bool false],aE s 1 (l.map i64)]) ag (dF.cl (p:=p) (l:=l) (room:=room) (over:=false) (s:=s)) ?_
 exact aa (x:=()) rfl rfl ag aB
theorem uJ(p:Nat)(l:List Int)(room:Nat)(over:Bool)(x:Int)(b:Nat)(hs:eX ρ ⟨some ⟨b,0,none⟩,1,1⟩ 1 ([x].map i64))(hl:l.length≤room)(hr:room≤4096):Gl.Spec ρ Tryz.prog 205 [.pointer (some ⟨p,0,none⟩),.slice (some ⟨b,0,none⟩) 1 1] [dF p l room over] R1
  fun _ M=>M=[dF p (Mk.push room l x) room (over||decide (room≤l.length))]:=by
 refine Spec.of (fun Q w h=>F.stack.Stack.qd.calls (some ⟨p,0,none⟩) ⟨some ⟨b,0,none⟩,1,1⟩ h) fun R=> ?_
 unfold F.stack.Stack.qd
 try simp only[aq,al]
 refine ak rfl (aK (ah (dF.op tk fun s=> ?_)))
 refine ai (k:= .int .i64) (b:=p) (off:=1) (x:=(room:Int)) (by rw[af]) tk rfl ?_
 refine ah ?_
 refine ai (k:= .slice) (b:=p) (off:=0) (x:=s) (by rw[af]) tk rfl ?_
 refine Tr.jZ (s:=s) (xs:=l) tk fun hsn=> ?_
 rw[wrap64 (n:=(room:Int)-((s.n:Nat):Int)) (by omega) (by omega)]
 refine aK (aR [aw p [.slice s.a s.n s.c,i64 room,.bool over]] ag (ah ?_))
 refine ar (k:= .slice) (b:=p) (off:=0) (x:=s) (by rw[af]) tk rfl ?_
 have fin:∀(v:Int) (l':List Int) (s':ay) (o:Bool),Mk.push room l x=l'→(over||o)=(over||decide (room≤l.length))→(decide (v<1)=o)→Tr ρ ρ (aE s' 1 (l'.map i64)::aw p [.slice s.a s.n s.c,i64 room,.bool over]::R)
   (nn (some ⟨p,0,none⟩) fun a10=>st (fa a10 0) [.slice s'.a s'.n s'.c]<|nn (some ⟨p,0,none⟩) fun a11=>ld (.l .bool) (fa a11 2) fun(x12:Bool)=>br x12
    (nn (some ⟨p,0,none⟩) fun a13=>st (fa a13 2) [.bool true]<|ret (.int .i64 v))
    (nn (some ⟨p,0,none⟩) fun a13=>st (fa a13 2) [.bool (decide (v<(((1:Nat):Nat):Int)))]<|ret (.int .i64 v)))
   (SP R1 (fun _ M=>M=[dF p (Mk.push room l x) room (over||decide (room≤l.length))]) R):=fun v l' s' o h1 h2 h3=>by
  refine ah ?_
  refine aL (b:=p) (off:=0) (by rw[af]) tk (by simp) rfl (ah ?_)
  refine ai (k:= .bool) (b:=p) (off:=2) (x:=over) (by rw[af]) tk rfl ?_
  rw[h1,←h2]
  refine aj (fun h=> ?_) (fun h=> ?_)
  ·refine ah ?_
   refine aL (b:=p) (off:=2) (by rw[af]) tk (by simp[bN]) rfl ?_
   rw[h]
   refine Tr.close (M:=[aw p [.slice s'.a s'.n s'.c,i64 room,.bool true],aE s' 1 (l'.map i64)]) ag (dF.cl (p:=p) (l:=l') (room:=room) (over:=true) (s:=s')) ?_
   exact aa (x:=v) rfl rfl ag aB
  ·refine ah ?_
   refine aL (b:=p) (off:=2) (by rw[af]) tk (by simp[bN]) rfl ?_
   rw[h]
   have h3':decide (v<(((1:Nat):Nat):Int))=o:=h3
   rw[h3']
   refine Tr.close (M:=[aw p [.slice s'.a s'.n s'.c,i64 room,.bool o],aE s' 1 (l'.map i64)]) ag (dF.cl (p:=p) (l:=l') (room:=room) (over:=o) (s:=s')) ?_
   exact aa (x:=v) rfl rfl ag aB
 by_cases hc:l.length<room
 ·have e:(if(room:Int)-((s.n:Nat):Int)<(((1:Nat):Nat):Int)then(room:Int)-((s.n:Nat):Int)else(((1:Nat):Nat):Int))=1:=by rw[if_neg (by omega)];rfl
  rw[e]
  refine dR (by omega) (by omega) (by omega) ?_
  refine jA (s:=s) (x:=⟨some ⟨b,0,none⟩,1,1⟩) (xs:=l) (ys:=[x]) ca tk (Rd.ro hs) (by simp;omega) fun r hr=> ?_
  exact fin 1 (l++[x]) r false (by unfold Mk.push;rw[if_pos hc]) (by rw[decide_eq_false (by omega)]) rfl
 ·have e:(if(room:Int)-((s.n:Nat):Int)<(((1:Nat):Nat):Int)then(room:Int)-((s.n:Nat):Int)else(((1:Nat):Nat):Int))=0:=by rw[if_pos (by omega)];omega
  rw[e]
  refine dR (by omega) (by omega) (by omega) ?_
  refine jA (s:=s) (x:=⟨some ⟨b,0,none⟩,0,1⟩) (xs:=l) (ys:=[]) ca tk ⟨by simp,fun _ _=> .inl rfl⟩ (by simp;omega) fun r hr=> ?_
  rw[List.append_nil]
  exact fin 0 l r true (by unfold Mk.push;rw[if_neg hc]) (by rw[decide_eq_true (by omega)]) rfl
theorem aE.CP{s:ay}{xs:List Int}{y:Int}(h:HP)(H:aE s 1 ((xs++[y]).map i64) h):aE ⟨s.a,xs.length,s.c⟩ 1 (xs.map i64) h:=by
 rcases H with ⟨_,_,_,g,_⟩|⟨b,off,pre,rest,g1,g2,g3,g4,g5,g6⟩
 ·simp at g
 ·right
  simp at g3
  refine⟨b,off,pre,i64 y::rest,g1,g2,by simp,by simp[g4];omega,by dsimp only;omega,?_⟩
  have e:pre++((xs++[y]).map i64++rest)=pre++(xs.map i64++i64 y::rest):=by simp
  rw[←e];exact g6
theorem xO(p:Nat)(l:List Int)(room:Nat)(over:Bool)(hr:l.length<2^40):Gl.Spec ρ Tryz.prog 207 [.pointer (some ⟨p,0,none⟩)] [dF p l room over] IB
  fun r M=>(l=[]∧r=((0:Int),false,())∧M=[dF p l room over])∨∃l' a,l=l'++[a]∧r=((a:Int),true,())∧M=[dF p l' room over]:=by
 refine Spec.of (fun Q w h=>F.stack.Stack.Ew.calls (some ⟨p,0,none⟩) h) fun R=> ?_
 unfold F.stack.Stack.Ew
 try simp only[aq,al]
 refine ae (nT p l room over) ag ?_
 rintro x' M ⟨rfl,rfl⟩
 try simp only[aq,al]
 rcases List.eq_nil_or_concat l with rfl|⟨l',a,e⟩
 ·refine aH rfl ?_
  exact aa (x:=((0:Int),false,())) rfl (.inl ⟨rfl,rfl,rfl⟩) ag aB
 ·rw[List.concat_eq_append]at e
  subst e
  rw[List.length_append,List.length_singleton]at hr⊢
  refine ak (by simp;omega) (aK (ah (dF.op tk fun s=> ?_)))
  refine ai (k:= .slice) (b:=p) (off:=0) (x:=s) (by rw[af]) tk rfl ?_
  refine ah ?_
  refine ai (k:= .slice) (b:=p) (off:=0) (x:=s) (by rw[af]) tk rfl ?_
  refine Tr.fD (s:=s) (m:=1) (xs:=(l'++[a]).map i64) tk fun hs hsc=> ?_
  simp at hs
  rw[wrap64 (n:=((s.n:Nat):Int)-1) (by omega) (by omega)]
  refine dY (s:=s) (xs:=l'++[a]) tk (by omega) (by simp;omega) ?_
  rw[show(((s.n:Nat):Int)-1).toNat=l'.length by omega]
  have hg:(l'++[a]).getD l'.length 0=a:=by rw[List.getD_eq_getElem?_getD,List.getElem?_append_right (Nat.le_refl _),Nat.sub_self];rfl
  rw[hg]
  refine aK (ah ?_)
  refine ai (k:= .slice) (b:=p) (off:=0) (x:=s) (by rw[af]) tk rfl ?_
  refine ah ?_
  refine ai (k:= .slice) (b:=p) (off:=0) (x:=s) (by rw[af]) tk rfl ?_
  rw[wrap64 (n:=((s.n:Nat):Int)-1) (by omega) (by omega)]
  refine dR (by omega) (by omega) (by omega) ?_
  refine ah ?_
  have e1:(if s.c=(0:Int).toNat then s.a else s.a.map fun b=>fa b ((0:Int).toNat*1))=s.a:=by
   split
   ·rfl
   ·cases s.a<;>rfl
  have e2:(((s.n:Nat):Int)-1).toNat-(0:Int).toNat=l'.length:=by rw[show(0:Int).toNat=0 from rfl];omega
  rw[e1,e2,show s.c-(0:Int).toNat=s.c from rfl]
  refine aL (b:=p) (off:=0) (by rw[af]) tk (by simp) rfl ?_
  refine Tr.imp (A:=aE s 1 ((l'++[a]).map i64)) (A':=aE ⟨s.a,l'.length,s.c⟩ 1 (l'.map i64)) tk aE.CP ?_
  refine Tr.close (M:=[aw p [.slice s.a l'.length s.c,i64 room,.bool over],aE ⟨s.a,l'.length,s.c⟩ 1 (l'.map i64)]) ag (dF.cl (p:=p) (l:=l') (room:=room) (over:=over) (s:=⟨s.a,l'.length,s.c⟩)) ?_
  exact aa (x:=((a:Int),true,())) rfl (.inr ⟨l',a,rfl,rfl,rfl⟩) ag aB
end Go.Proofs.YtfepdmpplahloaaGreat
namespace Go.Proofs.YtfepdmpplahloaaGreat
open Go Go.Gl
variable{ρ0 ρ:FR}{L L':List aA}{Post:Value→List aA→Prop}{T:Tree}
def cP(t ph room:Nat)(q:Mk.St):aA:=fun h=>∃i:Nat×Nat,star [aw t [.pointer (some ⟨i.1,0,none⟩),.pointer (some ⟨ph,0,none⟩),.pointer (some ⟨i.2,0,none⟩),i64 q.deep],aX i.1 q.m,dF i.2 q.bT room q.over] h
theorem cP.op{t ph room:Nat}{q:Mk.St}(k:Take L (cP t ph room q) L')(h:∀pb ps:Nat,Tr ρ0 ρ (aw t [.pointer (some ⟨pb,0,none⟩),.pointer (some ⟨ph,0,none⟩),.pointer (some ⟨ps,0,none⟩),i64 q.deep]::aX pb q.m::dF ps q.bT room q.over::L') T Post):Tr ρ0 ρ L T Post:=
 Tr.gh (M:=fun i:Nat×Nat=>[aw t [.pointer (some ⟨i.1,0,none⟩),.pointer (some ⟨ph,0,none⟩),.pointer (some ⟨i.2,0,none⟩),i64 q.deep],aX i.1 q.m,dF i.2 q.bT room q.over]) (c:=fun _=>True) k (fun _ ⟨i,h⟩=>⟨i,trivial,h⟩) fun i _=>h i.1 i.2
theorem cP.cl{t ph room pb ps:Nat}{m:List Bool}{bT:List Int}{over:Bool}{deep:Int}(h:HP)(H:star [aw t [.pointer (some ⟨pb,0,none⟩),.pointer (some ⟨ph,0,none⟩),.pointer (some ⟨ps,0,none⟩),i64 deep],aX pb m,dF ps bT room over] h):cP t ph room ⟨m,bT,over,deep⟩ h:=⟨(pb,ps),H⟩
namespace Mk
structure Ok(S:aD)(room:Nat)(q:St):Prop where
 len:q.m.length=S.ws.length
 small:q.bT.length≤room
theorem Ok.one{S:aD}{room:Nat}{q:St}(h:Ok S room q)(x:Int):Ok S room (Mk.one S room q x):=by
 refine⟨by rw[B9];exact h.len,?_⟩
 unfold Mk.one
 split
 ·exact h.small
 ·split
  ·exact h.small
  ·exact(uz h.small).1
theorem Ok.many{S:aD}{room:Nat}:∀(l:List Int) {q:St},Ok S room q→Ok S room (l.foldl (Mk.one S room) q)
 |[],_,h=>h
 |x::l,_,h=>Ok.many l (h.one x)
theorem Inv.ok{S:aD}{cs:List aS}{room:Nat}{m0:List Bool}{R:Int→Prop}{c:Nat}{q:St}{E:List Int}(h:Inv S cs room m0 R c q E):Ok S room q:=⟨h.len,h.small⟩
end Mk
theorem qg(t ph room:Nat)(hr:room≤4096)(S:aD)(cs:List aS)(hw:aO S cs)(q:Mk.St)(hq:Mk.Ok S room q)(x:Int):Gl.Spec ρ Tryz.prog 175 [.pointer (some ⟨t,0,none⟩),i64 x] [cP t ph room q,au ph S cs] (.many [])
  fun _ M=>M=[cP t ph room (Mk.one S room q x),au ph S cs]:=by
 refine Spec.of (fun Q w h=>F.mark.bl.one.calls (some ⟨t,0,none⟩) x h) fun R=> ?_
 obtain⟨m,bT,over,deep⟩:=q
 have hlen:=hq.len
 have hsm:=hq.small
 dsimp only at hlen hsm
 unfold F.mark.bl.one
 try simp only[aq,al]
 refine ah (cP.op tk fun pb ps=> ?_)
 dsimp only
 refine ai (k:= .ptr) (b:=t) (off:=0) (x:=some ⟨pb,0,none⟩) (by rw[af]) tk rfl ?_
 refine ae (l4 pb m x) ag ?_
 rintro x' M ⟨rfl,rfl⟩
 try simp only[aq,al]
 refine aj (fun h=> ?_) (fun h=> ?_)
 ·have e:Mk.one S room ⟨m,bT,over,deep⟩ x=⟨m,bT,over,deep⟩:=by unfold Mk.one;rw[if_pos h]
  rw[e]
  refine Tr.close ag (cP.cl (t:=t) (ph:=ph) (pb:=pb) (ps:=ps) (m:=m) (bT:=bT) (room:=room) (over:=over) (deep:=deep)) ?_
  exact aa (x:=()) rfl rfl ag aB
 ·refine ah ?_
  refine ai (k:= .ptr) (b:=t) (off:=1) (x:=some ⟨ph,0,none⟩) (by rw[af]) tk rfl ?_
  refine ae (bS ph S cs hw x) ag ?_
  rintro x' M ⟨rfl,rfl⟩
  try simp only[aq,al]
  refine ax fun b7=> ?_
  rw[Dw]
  cases hh:Ob.head S x with
  |none=>
   have e:Mk.one S room ⟨m,bT,over,deep⟩ x=⟨m,bT,over,deep⟩:=by unfold Mk.one;rw[if_neg (by rw[h];simp),if_pos hh]
   rw[e]
   refine aL (b:=b7) (off:=0) rfl tk (by simp) rfl ?_
   refine aH rfl ?_
   refine Tr.close ag (cP.cl (t:=t) (ph:=ph) (pb:=pb) (ps:=ps) (m:=m) (bT:=bT) (room:=room) (over:=over) (deep:=deep)) ?_
   exact aa (x:=()) rfl rfl ag aB
  |some hd=>
   have ho:Mk.obj S x:=by unfold Mk.obj;rw[hh];rfl
   obtain⟨g1,g2⟩:=Mk.lE hw ho
   have e:Mk.one S room ⟨m,bT,over,deep⟩ x=⟨m.set x.toNat true,Mk.push room bT x,over||decide (room≤bT.length),if((Mk.push room bT x).length:Int)>deep then((Mk.push room bT x).length:Int)else deep⟩:=by
    unfold Mk.one;rw[if_neg (by rw[h];simp),if_neg (by rw[hh];simp)]
   rw[e]
   refine aL (b:=b7) (off:=0) rfl tk (by simp) rfl ?_
   refine ak rfl (ah ?_)
   refine ai (k:= .ptr) (b:=t) (off:=0) (x:=some ⟨pb,0,none⟩) (by rw[af]) tk rfl ?_
   refine ax fun b10=> ?_
   refine Rd.bk (n:=1) (m:=1) (vs:=([x]:List Int).map i64) rfl tk fun ρ1 hle1 ro1=> ?_
   refine ae (jc pb m true ⟨some ⟨b10,0,none⟩,1,1⟩ [x] ro1 (by simp)) ag ?_
   rintro x' M ⟨rfl,rfl⟩
   try simp only[aq,al]
   have hok:Sp.gi m [x]=true:=by unfold Sp.gi;simp;omega
   rw[if_pos hok,show Sp.dr m true [x]=m.set x.toNat true from rfl]
   refine ah ?_
   refine ai (k:= .ptr) (b:=t) (off:=2) (x:=some ⟨ps,0,none⟩) (by rw[af]) tk rfl ?_
   refine ax fun b14=> ?_
   refine Rd.bk (n:=1) (m:=1) (vs:=([x]:List Int).map i64) rfl tk fun ρ2 hle2 ro2=> ?_
   refine ae (uJ ps bT room over x b14 ro2 hsm hr) ag ?_
   rintro r M rfl
   try simp only[aq,al]
   refine aK (aR [aw t [.pointer (some ⟨pb,0,none⟩),.pointer (some ⟨ph,0,none⟩),.pointer (some ⟨ps,0,none⟩),i64 deep]] ag (ah ?_))
   refine ar (k:= .int .i64) (b:=t) (off:=3) (x:=deep) (by rw[af]) tk rfl ?_
   refine ah (ar (k:= .ptr) (b:=t) (off:=2) (x:=some ⟨ps,0,none⟩) (by rw[af]) tk rfl ?_)
   refine ae (nT ps (Mk.push room bT x) room (over||decide (room≤bT.length))) ag ?_
   rintro x' M ⟨rfl,rfl⟩
   try simp only[aq,al]
   refine aN ag (ah ?_)
   refine aL (b:=t) (off:=3) (by rw[af]) tk (by simp) rfl ?_
   refine Tr.close ag (cP.cl (t:=t) (ph:=ph) (pb:=pb) (ps:=ps) (m:=m.set x.toNat true) (bT:=Mk.push room bT x) (room:=room) (over:=over||decide (room≤bT.length)) (deep:=if((Mk.push room bT x).length:Int)>deep then((Mk.push room bT x).length:Int)else deep)) ?_
   exact aa (x:=()) rfl rfl ag aB
theorem tT{S:aD}{cs:List aS}(hw:aO S cs)(a:Int):(Ob.refs S cs a).length<2^40:=by
 unfold Ob.refs
 split
 ·simp
 ·rename_i hd hh
  obtain⟨_,_,_,_,_,g,_⟩:=Ob.bt hw hh
  have:=Sp.bU g
  split
  ·split
   ·rename_i c hc
    have hin:c∈cs:=by
     unfold Sp.fP at hc
     split at hc
     ·exact List.mem_of_getElem? hc
     ·cases hc
    have:=hw.refs c hin
    omega
   ·simp
  ·split
   ·unfold Sp.upto;simp;omega
   ·split<;>simp
theorem ko(t ph room:Nat)(hr:room≤4096)(S:aD)(cs:List aS)(hw:aO S cs)(q:Mk.St)(hq:Mk.Ok S room q)(a:Int):Gl.Spec ρ Tryz.prog 179 [.pointer (some ⟨t,0,none⟩),i64 a] [cP t ph room q,au ph S cs] (.many [])
  fun _ M=>M=[cP t ph room (Mk.fields S cs room q a),au ph S cs]:=by
 refine Spec.of (fun Q w h=>F.mark.bl.fields.calls (some ⟨t,0,none⟩) a h) fun R=> ?_
 unfold F.mark.bl.fields
 try simp only[aq,al]
 refine ah (cP.op tk fun pb ps=> ?_)
 refine ai (k:= .ptr) (b:=t) (off:=1) (x:=some ⟨ph,0,none⟩) (by rw[af]) tk rfl ?_
 refine Tr.close ag (cP.cl (t:=t) (ph:=ph) (pb:=pb) (ps:=ps) (m:=q.m) (bT:=q.bT) (room:=room) (over:=q.over) (deep:=q.deep)) ?_
 refine ae (nX ph S cs hw a) ag ?_
 rintro r M ⟨hrn,rfl⟩
 try simp only[aq,al]
 have hrl:=tT hw a
 unfold Mk.fields Mk.kids
 generalize Ob.refs S cs a=xs at*
 refine Tr.cX (s:=r) tk fun ρ1 hle1 ro=> ?_
 refine Tr.take (A:=cP t ph room q) tk ?_
 refine aP (fun m u M=>(fun(i:Int)=>M=cP t ph room (((xs.take i.toNat).filterMap (Mk.qt S a)).foldl (Mk.one S room) q)::au ph S cs::R∧0≤i∧i≤xs.length∧m=xs.length-i.toNat) u.1) xs.length ?_ ?_
 ·exact⟨rfl,by simp,by dsimp only;omega,by simp⟩
 ·rintro m ⟨(i:Int),⟨⟩⟩ M ⟨rfl,i0,i1,rfl⟩ X hX
  dsimp only at*
  refine aj (fun h=> ?_) (fun h=> ?_)
  ·replace h:i<(r.n:Int):=of_decide_eq_true h
   have hi:i.toNat<xs.length:=by omega
   have ht:xs.take (i+1).toNat=xs.take i.toNat++[xs.getD i.toNat 0]:=by rw[show(i+1).toNat=i.toNat+1 by omega,aJ 0 hi]
   refine iE ro i0 (by omega) ?_
   generalize xs.getD i.toNat 0=f at*
   have hok:=hq.many ((xs.take i.toNat).filterMap (Mk.qt S a))
   have hstep:((xs.take (i+1).toNat).filterMap (Mk.qt S a)).foldl (Mk.one S room) q=if(Ob.get S a f).2=0 then Mk.one S room (((xs.take i.toNat).filterMap (Mk.qt S a)).foldl (Mk.one S room) q) (Ob.get S a f).1 else((xs.take i.toNat).filterMap (Mk.qt S a)).foldl (Mk.one S room) q:=by
    rw[ht,List.filterMap_append,List.foldl_append]
    by_cases hc:(Ob.get S a f).2=0
    ·rw[if_pos hc,show[f].filterMap (Mk.qt S a)=[(Ob.get S a f).1] by simp[Mk.qt,hc]];rfl
    ·rw[if_neg hc,show[f].filterMap (Mk.qt S a)=[] by simp[Mk.qt,hc]];rfl
   generalize((xs.take i.toNat).filterMap (Mk.qt S a)).foldl (Mk.one S room) q=q1 at*
   refine ah (cP.op tk fun pb ps=> ?_)
   refine ai (k:= .ptr) (b:=t) (off:=1) (x:=some ⟨ph,0,none⟩) (by rw[af]) tk rfl ?_
   refine Tr.close ag (cP.cl (t:=t) (ph:=ph) (pb:=pb) (ps:=ps) (m:=q1.m) (bT:=q1.bT) (room:=room) (over:=q1.over) (deep:=q1.deep)) ?_
   refine ae (dg ph S cs hw a f) ag ?_
   rintro x' M ⟨rfl,rfl⟩
   try simp only[aq,al]
   rw[wrap64 (n:=i+1) (by omega) (by omega)]
   refine aj (fun h2=> ?_) (fun h2=> ?_)
   ·have h2:(Ob.get S a f).2=0:=eq_of_beq h2
    rw[if_pos h2]at hstep
    refine ae (qg t ph room hr S cs hw q1 hok (Ob.get S a f).1) ag ?_
    rintro x' M rfl
    try simp only[aq,al]
    refine hX (xs.length-(i+1).toNat) _ _ (by omega) ⟨?_,by dsimp only;omega,by dsimp only;omega,rfl⟩
    dsimp only
    rw[hstep]
   ·have h2:(Ob.get S a f).2≠0:=by simpa using h2
    rw[if_neg h2]at hstep
    refine Tr.take (A:=cP t ph room q1) tk ?_
    refine hX (xs.length-(i+1).toNat) _ _ (by omega) ⟨?_,by dsimp only;omega,by dsimp only;omega,rfl⟩
    dsimp only
    rw[hstep]
  ·replace h:¬i<(r.n:Int):=of_decide_eq_false h
   rw[List.take_of_length_le (by omega)]
   exact aa (x:=()) rfl rfl ag aB
theorem jx(t ph room:Nat)(hr:room≤4096)(S:aD)(cs:List aS)(hw:aO S cs){m0:List Bool}{RR:Int→Prop}{c:Nat}{E:List Int}(hm0:Mk.ik S cs m0)(hR:∀a,RR a→∀b∈Mk.kids S cs a,Mk.obj S b→RR b)(q:Mk.St)(H:Mk.Inv S cs room m0 RR c q E)(hc:q.m.count false≤c):
  Gl.Spec ρ Tryz.prog 176 [.pointer (some ⟨t,0,none⟩)] [cP t ph room q,au ph S cs] (.many [])
  fun _ M=>∃q',M=[cP t ph room q',au ph S cs]∧Mk.Inv S cs room m0 RR c q' E∧q'.bT=[]∧q'.m.count false≤q.m.count false∧∀a,Sp.has q.m a=true→Sp.has q'.m a=true:=by
 refine Spec.of (fun Q w h=>F.mark.bl.drain.calls (some ⟨t,0,none⟩) h) fun R=> ?_
 unfold F.mark.bl.drain
 try simp only[aq,al]
 have pop:∀(q1:Mk.St) {k:RT IB→Tree},Mk.Inv S cs room m0 RR c q1 E→
   (q1.bT=[]→Tr ρ ρ (cP t ph room q1::au ph S cs::R) (k ((0:Int),false,())) (SP (.many []) (fun _ M=>∃q',M=[cP t ph room q',au ph S cs]∧Mk.Inv S cs room m0 RR c q' E∧q'.bT=[]∧q'.m.count false≤q.m.count false∧∀a,Sp.has q.m a=true→Sp.has q'.m a=true) R))→
   (∀l a,q1.bT=l++[a]→Tr ρ ρ (cP t ph room {q1 with bT:=l}::au ph S cs::R) (k (a,true,())) (SP (.many []) (fun _ M=>∃q',M=[cP t ph room q',au ph S cs]∧Mk.Inv S cs room m0 RR c q' E∧q'.bT=[]∧q'.m.count false≤q.m.count false∧∀a,Sp.has q.m a=true→Sp.has q'.m a=true) R))→
   Tr ρ ρ (cP t ph room q1::au ph S cs::R) (nn (some ⟨t,0,none⟩) fun a1=>ld (.l .ptr) (fa a1 2) fun(x2:Option Addr)=>call Tryz.prog 207 [.pointer x2] IB k) (SP (.many []) (fun _ M=>∃q',M=[cP t ph room q',au ph S cs]∧Mk.Inv S cs room m0 RR c q' E∧q'.bT=[]∧q'.m.count false≤q.m.count false∧∀a,Sp.has q.m a=true→Sp.has q'.m a=true) R):=fun q1 k H1 h0 h1=>by
  have hsm:=H1.small
  refine ah (cP.op tk fun pb ps=> ?_)
  refine ai (k:= .ptr) (b:=t) (off:=2) (x:=some ⟨ps,0,none⟩) (by rw[af]) tk rfl ?_
  refine ae (xO ps q1.bT room q1.over (by omega)) ag ?_
  rintro x' M (⟨e1,rfl,rfl⟩|⟨l,a,e1,rfl,rfl⟩)
  ·try simp only[aq,al]
   refine Tr.close ag (cP.cl (t:=t) (ph:=ph) (pb:=pb) (ps:=ps) (m:=q1.m) (bT:=q1.bT) (room:=room) (over:=q1.over) (deep:=q1.deep)) ?_
   exact h0 e1
  ·try simp only[aq,al]
   refine Tr.close ag (cP.cl (t:=t) (ph:=ph) (pb:=pb) (ps:=ps) (m:=q1.m) (bT:=l) (room:=room) (over:=q1.over) (deep:=q1.deep)) ?_
   exact h1 l a e1
 have htodo:∀(q2:Mk.St) (l:List Int) (a:Int),q2.bT=l++[a]→Mk.todo {q2 with bT:=l}+1=Mk.todo q2:=fun q2 l a e=>by
  unfold Mk.todo;dsimp only;rw[e,List.length_append,List.length_singleton];omega
 refine pop q H ?g1 ?g2
 case' g1=>
  intro e
  refine aP (fun m u M=>(fun(aQ:Int) (ok:Bool)=>∃q1,M=cP t ph room q1::au ph S cs::R∧m=(if ok=true then Mk.todo q1+1 else 0)∧q1.m.count false≤q.m.count false∧(∀a,Sp.has q.m a=true→Sp.has q1.m a=true)∧
   ((ok=false∧q1.bT=[]∧Mk.Inv S cs room m0 RR c q1 E)∨(ok=true∧Mk.Inv S cs room m0 RR c q1 (aQ::E)∧Sp.has q1.m aQ=true))) u.1 u.2.1) 0 ⟨q,rfl,rfl,Nat.le_refl _,fun _ h=>h,.inl ⟨rfl,e,H⟩⟩ ?_
 case' g2=>
  intro l a e
  refine aP (fun m u M=>(fun(aQ:Int) (ok:Bool)=>∃q1,M=cP t ph room q1::au ph S cs::R∧m=(if ok=true then Mk.todo q1+1 else 0)∧q1.m.count false≤q.m.count false∧(∀a,Sp.has q.m a=true→Sp.has q1.m a=true)∧
   ((ok=false∧q1.bT=[]∧Mk.Inv S cs room m0 RR c q1 E)∨(ok=true∧Mk.Inv S cs room m0 RR c q1 (aQ::E)∧Sp.has q1.m aQ=true))) u.1 u.2.1) (Mk.todo {q with bT:=l}+1) ⟨{q with bT:=l},rfl,rfl,Nat.le_refl _,fun _ h=>h,.inr ⟨rfl,(H.pop e).1,(H.pop e).2⟩⟩ ?_
 all_goals
  rintro m ⟨(aQ:Int),(ok:Bool),⟨⟩⟩ M ⟨q1,rfl,rfl,hcnt,hmono,hcase⟩ X hX
  dsimp only at hcase hX⊢
  rcases hcase with ⟨rfl,e1,H1⟩|⟨rfl,H1,hat⟩
  ·refine ak rfl ?_
   exact aa (x:=()) rfl ⟨q1,rfl,H1,e1,hcnt,hmono⟩ ag aB
  ·refine aH rfl ?_
   have hok:=H1.ok
   obtain⟨i1,i2,i3,i4⟩:=H1.fields hw hm0 hR hat (by omega)
   refine ae (ko t ph room hr S cs hw q1 hok aQ) ag ?_
   rintro x' M rfl
   try simp only[aq,al]
   generalize Mk.fields S cs room q1 aQ=q2 at*
   refine pop q2 i1 (fun e2=> ?_) (fun l2 a2 e2=> ?_)
   ·exact hX 0 _ _ (by simp) ⟨q2,rfl,rfl,by omega,fun a h=>i4 a (hmono a h),.inl ⟨rfl,e2,i1⟩⟩
   ·have:=htodo q2 l2 a2 e2
    exact hX (Mk.todo {q2 with bT:=l2}+1) _ _ (by rw[if_pos rfl];omega) ⟨{q2 with bT:=l2},rfl,rfl,by dsimp only;omega,fun a h=>i4 a (hmono a h),.inr ⟨rfl,(i1.pop e2).1,(i1.pop e2).2⟩⟩
theorem pS(t ph room:Nat)(q:Mk.St)(hl:q.m.length≤16384):Gl.Spec ρ Tryz.prog 148 [.pointer (some ⟨t,0,none⟩)] [cP t ph room q] RS
  fun r M=>M=[aE r 1 ((Mk.all q.m).map i64),cP t ph room q]:=by
 refine Spec.of (fun Q w h=>F.mark.bl.wX.calls (some ⟨t,0,none⟩) h) fun R=> ?_
 unfold F.mark.bl.wX
 try simp only[aq,al]
 obtain⟨m,bT,over,deep⟩:=q
 dsimp only at hl⊢
 refine ak rfl (ah (cP.op tk fun pb ps=> ?_))
 dsimp only
 refine ai (k:= .ptr) (b:=t) (off:=0) (x:=some ⟨pb,0,none⟩) (by rw[af]) tk rfl ?_
 refine ae (eI pb m 0 true hl) ag ?_
 rintro x' M ⟨rfl,rfl⟩
 try simp only[aq,al]
 refine Tr.take (A:=aw t [.pointer (some ⟨pb,0,none⟩),.pointer (some ⟨ph,0,none⟩),.pointer (some ⟨ps,0,none⟩),i64 deep]) tk (Tr.cq 1 ?_)
 let pt:Nat→List Int:=fun p=>((List.range p).filter fun i=>m.getD i false).map fun i:Nat=>(i:Int)
 have hpt:∀p k:Nat,p≤k→(∀j,p≤j→j<k→m.getD j false≠true)→pt k=pt p:=fun p k hpk hno=>by
  obtain⟨d,rfl⟩:=Nat.exists_eq_add_of_le hpk
  show((List.range (p+d)).filter _).map _=_
  rw[List.range_add,List.filter_append,List.map_append]
  have:(List.map (fun x=>p+x) (List.range d)).filter (fun i=>m.getD i false)=[]:=by
   rw[List.filter_eq_nil_iff]
   intro j hj
   obtain⟨x,hx,rfl⟩:=List.mem_map.mp hj
   rw[List.mem_range]at hx
   exact hno _ (by omega) (by omega)
  rw[this];simp[pt]
 have hpl:∀p,(pt p).length≤p:=fun p=>by
  show(((List.range p).filter _).map _).length≤p
  rw[List.length_map];exact Nat.le_trans (List.length_filter_le _ _) (by simp)
 have hps:∀k,m.getD k false=true→pt (k+1)=pt k++[(k:Int)]:=fun k h=>by
  show((List.range (k+1)).filter _).map _=_
  rw[List.range_succ,List.filter_append,List.map_append,List.filter_cons_of_pos (by exact h)];rfl
 refine aP (fun n u M=>(fun(s:ay) (aQ:Int)=>∃p:Nat,M=aE s 1 ((pt p).map i64)::aw t [.pointer (some ⟨pb,0,none⟩),.pointer (some ⟨ph,0,none⟩),.pointer (some ⟨ps,0,none⟩),i64 deep]::aX pb m::dF ps bT room over::R∧aQ=Sp.next m p true∧p≤m.length∧n=m.length-p) u.1 u.2.1) m.length ?_ ?_
 ·refine⟨0,?_,rfl,by omega,by simp⟩
  show _=aE _ 1 (List.map i64 [])::_
  rfl
 ·rintro n ⟨(s:ay),(aQ:Int),⟨⟩⟩ M ⟨p,rfl,hat,hp,rfl⟩ X hX
  dsimp only at hat hX⊢
  rcases Sp.ft m true p with ⟨g1,g2⟩|⟨k,g1,g2,g3,g4,g5⟩
  ·rw[g1]at hat
   refine ak (decide_eq_false (show¬(aQ:Int)≥0 by omega)) ?_
   have e:pt p=Mk.all m:=by
    show _=pt m.length
    exact(hpt p m.length hp g2).symm
   rw[e]
   refine Tr.close ag (cP.cl (t:=t) (ph:=ph) (pb:=pb) (ps:=ps) (m:=m) (bT:=bT) (room:=room) (over:=over) (deep:=deep)) ?_
   exact aa (x:=s) rfl rfl ag aB
  ·rw[g1]at hat
   refine aH (decide_eq_true (show(aQ:Int)≥0 by omega)) ?_
   have hlp:=hpl p
   refine gw (s:=s) (xs:=pt p) ca tk (by omega) fun r hr=> ?_
   refine ah ?_
   refine ai (k:= .ptr) (b:=t) (off:=0) (x:=some ⟨pb,0,none⟩) (by rw[af]) tk rfl ?_
   rw[wrap64 (n:=aQ+1) (by omega) (by omega)]
   refine ae (eI pb m (aQ+1) true hl) ag ?_
   rintro x' M ⟨rfl,rfl⟩
   try simp only[aq,al]
   have e:pt p++[aQ]=pt (k+1):=by rw[hps k g4,hpt p k g2 g5,hat]
   rw[e]
   refine Tr.take (A:=aw t [.pointer (some ⟨pb,0,none⟩),.pointer (some ⟨ph,0,none⟩),.pointer (some ⟨ps,0,none⟩),i64 deep]) tk (Tr.take (A:=aE r 1 ((pt (k+1)).map i64)) tk ?_)
   refine hX (m.length-(k+1)) _ _ (by omega) ⟨k+1,rfl,?_,by omega,rfl⟩
   rw[hat];rfl
theorem jP(t ph room:Nat)(q:Mk.St)(x:Int):Gl.Spec ρ Tryz.prog 184 [.pointer (some ⟨t,0,none⟩),i64 x] [cP t ph room q] RB
  fun r M=>r=Sp.has q.m x∧M=[cP t ph room q]:=by
 refine Spec.of (fun Q w h=>F.mark.bl.rE.calls (some ⟨t,0,none⟩) x h) fun R=> ?_
 unfold F.mark.bl.rE
 try simp only[aq,al]
 refine aH rfl (ah (cP.op tk fun pb ps=> ?_))
 refine ai (k:= .ptr) (b:=t) (off:=0) (x:=some ⟨pb,0,none⟩) (by rw[af]) tk rfl ?_
 refine ae (l4 pb q.m x) ag ?_
 rintro x' M ⟨rfl,rfl⟩
 try simp only[aq,al]
 refine Tr.close ag (cP.cl (t:=t) (ph:=ph) (pb:=pb) (ps:=ps) (m:=q.m) (bT:=q.bT) (room:=room) (over:=q.over) (deep:=q.deep)) ?_
 exact aa (x:=Sp.has q.m x) rfl ⟨rfl,rfl⟩ ag aB
def Mk.Bj(n:Nat):Mk.St:=⟨List.replicate n false,[],false,0⟩
theorem zi(ph:Nat)(S:aD)(cs:List aS)(hw:aO S cs)(n:Int)(h0:1≤n)(h1:n≤4096):Gl.Spec ρ Tryz.prog 141 [.pointer (some ⟨ph,0,none⟩),i64 n] [au ph S cs] PE
  fun r M=>∃t,r=(some ⟨t,0,none⟩,0,())∧M=[cP t ph n.toNat (Mk.Bj S.ws.length),au ph S cs]:=by
 refine Spec.of (fun Q w h=>F.mark.dc.calls (some ⟨ph,0,none⟩) n h) fun R=> ?_
 unfold F.mark.dc
 try simp only[aq,al]
 have hl:=hw.wf.len
 have hm:=hw.wf.gv
 refine ak rfl ?_
 refine ae (qE n h0 h1) ag ?_
 rintro x' M ⟨ps,rfl,rfl⟩
 try simp only[aq,al]
 refine ak rfl (ah (au.op tk fun p1 pt=> ?_))
 refine ai (k:= .ptr) (b:=ph) (off:=0) (x:=some ⟨p1,0,none⟩) (by rw[af]) tk rfl ?_
 refine ah (aF.op tk fun pa pp ms ml ls ll h3 h4 _ _=> ?_)
 refine ai (k:= .ptr) (b:=p1) (off:=0) (x:=some ⟨pa,0,none⟩) (by rw[af]) tk rfl ?_
 refine ae (m7 pa S.ws) ag ?_
 rintro x' M ⟨rfl,rfl⟩
 try simp only[aq,al]
 refine Tr.close ag (aF.cl (p:=p1) (pa:=pa) (pp:=pp) (ms:=ms) (ml:=ml) (S:=S) (ls:=ls) (ll:=ll) h3 h4) ?_
 refine Tr.close ag (au.cl (p:=ph) (ps:=p1) (pt:=pt) (S:=S) (cs:=cs)) ?_
 refine ae (pj (S.ws.length:Nat) (by omega) (by omega)) ag ?_
 rintro x' M ⟨pb,rfl,rfl⟩
 try simp only[aq,al]
 refine ak rfl (ax fun t=> ?_)
 rw[Int.toNat_natCast]
 refine Tr.close ag (cP.cl (t:=t) (ph:=ph) (pb:=pb) (ps:=ps) (m:=List.replicate S.ws.length false) (bT:=[]) (room:=n.toNat) (over:=false) (deep:=0)) ?_
 exact aa (x:=(some ⟨t,0,none⟩,(0:Int),())) rfl ⟨t,rfl,rfl⟩ ag aB
theorem Mk.Cy{S:aD}{cs:List aS}:Mk.ik S cs (Mk.Bj S.ws.length).m:=by
 have h:∀a,Sp.has (Mk.Bj S.ws.length).m a=false:=fun a=>by
  unfold Sp.has Mk.Bj
  rw[Bool.and_eq_false_iff];right
  rw[List.getD_eq_getElem?_getD,List.getElem?_replicate];split<;>rfl
 exact⟨by simp[Mk.Bj],fun a ha=>(by rw[h]at ha;cases ha),fun a ha=>(by rw[h]at ha;cases ha)⟩
theorem Mk.Fo{n:Nat}(a:Int):Sp.has (Mk.Bj n).m a=false:=by
 unfold Sp.has Mk.Bj
 rw[Bool.and_eq_false_iff];right
 rw[List.getD_eq_getElem?_getD,List.getElem?_replicate];split<;>rfl
structure Mk.Rest(S:aD)(cs:List aS)(room:Nat)(q:Mk.St):Prop where
 closed:Mk.ik S cs q.m
 bT:q.bT=[]
 over:q.over=false
 lr:0≤q.deep
 lq:q.deep≤room
theorem Mk.EK{S:aD}{cs:List aS}{room:Nat}:Mk.Rest S cs room (Mk.Bj S.ws.length):=⟨Mk.Cy,rfl,rfl,by simp[Mk.Bj],by simp[Mk.Bj]⟩
theorem ry(t ph room:Nat)(hr:room≤4096)(S:aD)(cs:List aS)(hw:aO S cs)(q:Mk.St)(H:Mk.Rest S cs room q)(z:ay)(l:List Int)(ro:eX ρ z 1 (l.map i64))(hl:l.length<2^40):
  Gl.Spec ρ Tryz.prog 143 [.pointer (some ⟨t,0,none⟩),.slice z.a z.n z.c] [cP t ph room q,au ph S cs] (.many [])
  fun _ M=>∃q',M=[cP t ph room q',au ph S cs]∧Mk.Rest S cs room q'∧∀a,Sp.has q'.m a=true↔(Sp.has q.m a=true∨Mk.jM S cs l a):=by
 refine Spec.of (fun Q w h=>F.mark.bl.Mark.calls (some ⟨t,0,none⟩) z h) fun R=> ?_
 unfold F.mark.bl.Mark
 try simp only[aq,al]
 have hzn:=ro.len
 have hwl:=hw.wf.len
 have hwm:=hw.wf.gv
 have hm0:=H.closed
 have hR:∀a,Mk.jM S cs l a→∀b∈Mk.kids S cs a,Mk.obj S b→Mk.jM S cs l b:=fun a ha b hb ho=> .step ha hb ho
 have hI0:Mk.Inv S cs room q.m (Mk.jM S cs l) (q.m.count false) q []:=⟨hm0.len,fun _ h=>h,fun _ h=> .inl h,hm0.obj,fun _ a ha=> .inr (.inr (hm0.qt a ha)),fun a ha=>(by rw[H.bT]at ha;cases ha),by rw[H.bT];simp,H.lr,H.lq,fun h=>(by rw[H.over]at h;cases h)⟩
 refine ak rfl ?_
 refine aP (fun m u M=>(fun(i:Int)=>∃q1,M=cP t ph room q1::au ph S cs::R∧0≤i∧i≤l.length∧m=l.length-i.toNat∧q1.bT=[]∧Mk.Inv S cs room q.m (Mk.jM S cs l) (q.m.count false) q1 []∧q1.m.count false≤q.m.count false∧∀a∈l.take i.toNat,Mk.obj S a→Sp.has q1.m a=true) u.1) l.length ?_ ?_
 ·exact⟨q,rfl,by simp,by dsimp only;omega,by simp,H.bT,hI0,Nat.le_refl _,by simp⟩
 ·rintro m ⟨(i:Int),⟨⟩⟩ M ⟨q1,rfl,i0,i1,rfl,e1,H1,hc1,hroots⟩ X hX
  dsimp only at hroots hX⊢
  refine aj (fun h=> ?_) (fun h=> ?_)
  ·replace h:i<(z.n:Int):=of_decide_eq_true h
   have hi:i.toNat<l.length:=by omega
   have hmem:l.getD i.toNat 0∈l:=by rw[List.getD_eq_getElem?_getD,List.getElem?_eq_getElem hi];exact List.getElem_mem hi
   have ht:l.take (i+1).toNat=l.take i.toNat++[l.getD i.toNat 0]:=by rw[show(i+1).toNat=i.toNat+1 by omega,aJ 0 hi]
   refine iE ro i0 (by omega) ?_
   generalize l.getD i.toNat 0=x at*
   refine ae (qg t ph room hr S cs hw q1 H1.ok x) ag ?_
   rintro x' M rfl
   try simp only[aq,al]
   have H2:=H1.one hw (x:=x) (fun ho=> .inr (.root hmem ho)) hc1
   have hc2:=Mk.m6 (room:=room) hw H1.len x
   have hmono:∀a,Sp.has q1.m a=true→Sp.has (Mk.one S room q1 x).m a=true:=fun a h=>Mk.ql S room q1 x hw H1.len h
   have hx:Mk.obj S x→Sp.has (Mk.one S room q1 x).m x=true:=Mk.sc hw H1.len
   generalize Mk.one S room q1 x=q2 at*
   refine ae (jx t ph room hr S cs hw hm0 hR q2 H2 (by omega)) ag ?_
   rintro x' M ⟨q3,rfl,H3,e3,hc3,hmono3⟩
   try simp only[aq,al]
   rw[wrap64 (n:=i+1) (by omega) (by omega)]
   refine hX (l.length-(i+1).toNat) _ _ (by omega) ⟨q3,rfl,by dsimp only;omega,by dsimp only;omega,rfl,e3,H3,by omega,fun a ha ho=> ?_⟩
   dsimp only at ha
   rw[ht]at ha
   rcases List.mem_append.mp ha with ha|ha
   ·exact hmono3 a (hmono a (hroots a ha ho))
   ·rw[List.mem_singleton]at ha;subst ha
    exact hmono3 a (hx ho)
  ·replace h:¬i<(z.n:Int):=of_decide_eq_false h
   rw[List.take_of_length_le (by omega)]at hroots
   clear hX
   refine aP (fun m u M=>∃q1 c,M=cP t ph room q1::au ph S cs::R∧m=q1.m.count false+(if q1.over=true then 1 else 0)∧q1.bT=[]∧Mk.Inv S cs room q.m (Mk.jM S cs l) c q1 []∧∀a∈l,Mk.obj S a→Sp.has q1.m a=true) _ ⟨q1,_,rfl,rfl,e1,H1,hroots⟩ ?_
   clear hroots hc1 H1 e1 q1
   rintro m ⟨⟩ M ⟨q1,c,rfl,rfl,e1,H1,hroots⟩ X hX
   refine ah (cP.op tk fun pb ps=> ?_)
   refine ai (k:= .ptr) (b:=t) (off:=2) (x:=some ⟨ps,0,none⟩) (by rw[af]) tk rfl ?_
   refine ae (oV ps q1.bT room q1.over) ag ?_
   rintro x' M ⟨rfl,rfl⟩
   try simp only[aq,al]
   refine aj (fun ho=> ?_) (fun ho=> ?_)
   ·refine ah ?_
    refine ai (k:= .ptr) (b:=t) (off:=2) (x:=some ⟨ps,0,none⟩) (by rw[af]) tk rfl ?_
    refine ae (nU ps q1.bT room q1.over) ag ?_
    rintro x' M rfl
    try simp only[aq,al]
    refine Tr.close ag (cP.cl (t:=t) (ph:=ph) (pb:=pb) (ps:=ps) (m:=q1.m) (bT:=q1.bT) (room:=room) (over:=false) (deep:=q1.deep)) ?_
    have H2:Mk.Inv S cs room q.m (Mk.jM S cs l) (q1.m.count false) ⟨q1.m,q1.bT,false,q1.deep⟩ (Mk.all q1.m):=⟨H1.len,H1.lT,H1.new,H1.obj,fun _ a ha=> .inr (.inl (Mk.fE.mpr ha)),H1.bT,H1.small,H1.lr,H1.lq,fun h=>by cases h⟩
    have hlen1:=H1.len
    refine ae (pS t ph room ⟨q1.m,q1.bT,false,q1.deep⟩ (by dsimp only;omega)) ag ?_
    rintro r M rfl
    try simp only[aq,al]
    have hal:=Mk.fF (m:=q1.m)
    have hmem:∀a∈Mk.all q1.m,Sp.has q1.m a=true:=fun a ha=>Mk.fE.mp ha
    generalize Mk.all q1.m=E at*
    rw[if_pos ho]at hX
    refine Tr.jZ (s:=r) (xs:=E) tk fun hrn=> ?_
    refine Tr.take (A:=au ph S cs) tk (Tr.take (A:=cP t ph room ⟨q1.m,q1.bT,false,q1.deep⟩) tk ?_)
    refine aP (fun m u M=>(fun(i:Int)=>∃q2,M=cP t ph room q2::au ph S cs::aE r 1 (E.map i64)::R∧0≤i∧i≤E.length∧m=E.length-i.toNat∧q2.bT=[]∧Mk.Inv S cs room q.m (Mk.jM S cs l) (q1.m.count false) q2 (E.drop i.toNat)∧q2.m.count false≤q1.m.count false∧∀a,Sp.has q1.m a=true→Sp.has q2.m a=true) u.1) E.length ?_ ?_
    ·exact⟨⟨q1.m,q1.bT,false,q1.deep⟩,rfl,by simp,by dsimp only;omega,by simp,e1,H2,Nat.le_refl _,fun _ h=>h⟩
    ·clear h i0 i1 i
     rintro m ⟨(i:Int),⟨⟩⟩ M ⟨q2,rfl,i0,i1,rfl,e2,H3,hc2,hmono⟩ Y hY
     dsimp only at H3 hY⊢
     refine aj (fun h=> ?_) (fun h=> ?_)
     ·replace h:i<(r.n:Int):=of_decide_eq_true h
      have hi:i.toNat<E.length:=by omega
      have hin:E.getD i.toNat 0∈E:=by rw[List.getD_eq_getElem?_getD,List.getElem?_eq_getElem hi];exact List.getElem_mem hi
      rw[iF 0 hi]at H3
      refine dY (s:=r) (xs:=E) tk i0 (by omega) ?_
      generalize E.getD i.toNat 0=x at*
      have hx:=hmono x (hmem x hin)
      obtain⟨j1,j2,j3,j4⟩:=H3.fields hw hm0 hR hx (by omega)
      refine ae (ko t ph room hr S cs hw q2 H3.ok x) ag ?_
      rintro x' M rfl
      try simp only[aq,al]
      generalize Mk.fields S cs room q2 x=q3 at*
      refine ae (jx t ph room hr S cs hw hm0 hR q3 j1 (by omega)) ag ?_
      rintro x' M ⟨q4,rfl,H4,e4,hc4,hmono4⟩
      try simp only[aq,al]
      rw[wrap64 (n:=i+1) (by omega) (by omega)]
      refine hY (E.length-(i+1).toNat) _ _ (by omega) ⟨q4,rfl,by dsimp only;omega,by dsimp only;omega,rfl,e4,?_,by omega,fun a ha=>hmono4 a (j4 a (hmono a ha))⟩
      dsimp only
      rw[show(i+1).toNat=i.toNat+1 by omega];exact H4
     ·replace h:¬i<(r.n:Int):=of_decide_eq_false h
      rw[List.drop_eq_nil_of_le (by omega)]at H3
      refine Tr.drop (A:=aE r 1 (E.map i64)) tk ?_
      refine hX _ _ _ ?_ ⟨q2,_,rfl,rfl,e2,H3,fun a ha ho=>hmono a (hroots a ha ho)⟩
      split
      ·rename_i ho2
       have:=H3.lost ho2
       omega
      ·omega
   ·refine Tr.close ag (cP.cl (t:=t) (ph:=ph) (pb:=pb) (ps:=ps) (m:=q1.m) (bT:=q1.bT) (room:=room) (over:=q1.over) (deep:=q1.deep)) ?_
    have hcl:=H1.over hm0 e1 ho
    refine aa (x:=()) rfl ⟨q1,rfl,⟨hcl,e1,ho,H1.lr,H1.lq⟩,fun a=>⟨H1.new a,?_⟩⟩ ag aB
    rintro(h|h)
    ·exact H1.lT a h
    ·exact hcl.Fh hroots h
end Go.Proofs.YtfepdmpplahloaaGreat
namespace Go.Proofs.YtfepdmpplahloaaGreat
open Go Go.Gl
variable{ρ0 ρ:FR}{L L':List aA}{Post:Value→List aA→Prop}{T:Tree}
end Go.Proofs.YtfepdmpplahloaaGreat
namespace Go.Proofs.YtfepdmpplahloaaGreat
open Go Go.Gl
variable{ρ0 ρ:FR}{L L':List aA}{Post:Value→List aA→Prop}{T:Tree}
theorem Mk.qm{S:aD}{cs:List aS}{a b:Int}:b∈Mk.kids S cs a↔∃f∈Ob.refs S cs a,(Ob.get S a f).2=0∧(Ob.get S a f).1=b:=by
 unfold Mk.kids
 rw[List.mem_filterMap]
 constructor
 ·rintro⟨f,hf,h⟩
  unfold Mk.qt at h
  split at h
  ·rename_i h0;injection h with h;exact⟨f,hf,h0,h⟩
  ·cases h
 ·rintro⟨f,hf,h0,h⟩
  exact⟨f,hf,by unfold Mk.qt;rw[if_pos h0,h]⟩
theorem Mk.gF{S:aD}{cs:List aS}(hw:aO S cs):¬Mk.obj S 0:=fun h=>by
 unfold Mk.obj at h
 cases hh:Ob.head S 0 with
 |none=>rw[hh]at h;cases h
 |some hd=>
  obtain⟨n,w,e,hf,_⟩:=Ob.bt hw hh
  have hn:n=0:=by omega
  subst hn
  have h0:=(hw.wf.res 0).mpr rfl
  have hl:=hw.wf.len
  have hp:=hw.wf.pos
  have:=Sp.cO (S:=S) (n:=0) (by omega) (fun c l h=>by rw[h0]at h;cases h)
  rw[this,Sp.sb]at hf
  ·cases hf
  ·intro j k hj hc
   have:j=0:=by omega
   subst this
   rw[h0]at hj;cases hj
end Go.Proofs.YtfepdmpplahloaaGreat
namespace Go.Proofs.YtfepdmpplahloaaGreat
open Go Go.Gl
variable{ρ0 ρ:FR}{L L':List aA}{Post:Value→List aA→Prop}{T:Tree}
theorem vU{A:List aA}(t ph room:Nat)(hr:room≤4096)(S:aD)(cs:List aS)(hw:aO S cs)(q:Mk.St)(H:Mk.Rest S cs room q)(z:ay)(l:List Int)(ro:Rd ρ A z 1 (l.map i64))(hl:l.length<2^40):
  Gl.Spec ρ Tryz.prog 143 [.pointer (some ⟨t,0,none⟩),.slice z.a z.n z.c] (cP t ph room q::au ph S cs::A) (.many [])
  fun _ M=>∃q',M=cP t ph room q'::au ph S cs::A∧Mk.Rest S cs room q'∧∀a,Sp.has q'.m a=true↔(Sp.has q.m a=true∨Mk.jM S cs l a):=by
 refine Spec.of (fun Q w h=>F.mark.bl.Mark.calls (some ⟨t,0,none⟩) z h) fun R=> ?_
 unfold F.mark.bl.Mark
 try simp only[aq,al]
 have hzn:=ro.len
 have hwl:=hw.wf.len
 have hwm:=hw.wf.gv
 have hm0:=H.closed
 have hR:∀a,Mk.jM S cs l a→∀b∈Mk.kids S cs a,Mk.obj S b→Mk.jM S cs l b:=fun a ha b hb ho=> .step ha hb ho
 have hI0:Mk.Inv S cs room q.m (Mk.jM S cs l) (q.m.count false) q []:=⟨hm0.len,fun _ h=>h,fun _ h=> .inl h,hm0.obj,fun _ a ha=> .inr (.inr (hm0.qt a ha)),fun a ha=>(by rw[H.bT]at ha;cases ha),by rw[H.bT];simp,H.lr,H.lq,fun h=>(by rw[H.over]at h;cases h)⟩
 refine ak rfl ?_
 refine aP (fun m u M=>(fun(i:Int)=>∃q1,M=cP t ph room q1::au ph S cs::(A++R)∧0≤i∧i≤l.length∧m=l.length-i.toNat∧q1.bT=[]∧Mk.Inv S cs room q.m (Mk.jM S cs l) (q.m.count false) q1 []∧q1.m.count false≤q.m.count false∧∀a∈l.take i.toNat,Mk.obj S a→Sp.has q1.m a=true) u.1) l.length ?_ ?_
 ·exact⟨q,rfl,by simp,by dsimp only;omega,by simp,H.bT,hI0,Nat.le_refl _,by simp⟩
 ·rintro m ⟨(i:Int),⟨⟩⟩ M ⟨q1,rfl,i0,i1,rfl,e1,H1,hc1,hroots⟩ X hX
  dsimp only at hroots hX⊢
  refine aj (fun h=> ?_) (fun h=> ?_)
  ·replace h:i<(z.n:Int):=of_decide_eq_true h
   have hi:i.toNat<l.length:=by omega
   have hmem:l.getD i.toNat 0∈l:=by rw[List.getD_eq_getElem?_getD,List.getElem?_eq_getElem hi];exact List.getElem_mem hi
   have ht:l.take (i+1).toNat=l.take i.toNat++[l.getD i.toNat 0]:=by rw[show(i+1).toNat=i.toNat+1 by omega,aJ 0 hi]
   refine iP ro (aI.mn (aI.mn (aI.app A R))) i0 (by omega) ?_
   generalize l.getD i.toNat 0=x at*
   refine ae (qg t ph room hr S cs hw q1 H1.ok x) ag ?_
   rintro x' M rfl
   try simp only[aq,al]
   have H2:=H1.one hw (x:=x) (fun ho=> .inr (.root hmem ho)) hc1
   have hc2:=Mk.m6 (room:=room) hw H1.len x
   have hmono:∀a,Sp.has q1.m a=true→Sp.has (Mk.one S room q1 x).m a=true:=fun a h=>Mk.ql S room q1 x hw H1.len h
   have hx:Mk.obj S x→Sp.has (Mk.one S room q1 x).m x=true:=Mk.sc hw H1.len
   generalize Mk.one S room q1 x=q2 at*
   refine ae (jx t ph room hr S cs hw hm0 hR q2 H2 (by omega)) ag ?_
   rintro x' M ⟨q3,rfl,H3,e3,hc3,hmono3⟩
   try simp only[aq,al]
   rw[wrap64 (n:=i+1) (by omega) (by omega)]
   refine hX (l.length-(i+1).toNat) _ _ (by omega) ⟨q3,rfl,by dsimp only;omega,by dsimp only;omega,rfl,e3,H3,by omega,fun a ha ho=> ?_⟩
   dsimp only at ha
   rw[ht]at ha
   rcases List.mem_append.mp ha with ha|ha
   ·exact hmono3 a (hmono a (hroots a ha ho))
   ·rw[List.mem_singleton]at ha;subst ha
    exact hmono3 a (hx ho)
  ·replace h:¬i<(z.n:Int):=of_decide_eq_false h
   rw[List.take_of_length_le (by omega)]at hroots
   clear hX
   refine aP (fun m u M=>∃q1 c,M=cP t ph room q1::au ph S cs::(A++R)∧m=q1.m.count false+(if q1.over=true then 1 else 0)∧q1.bT=[]∧Mk.Inv S cs room q.m (Mk.jM S cs l) c q1 []∧∀a∈l,Mk.obj S a→Sp.has q1.m a=true) _ ⟨q1,_,rfl,rfl,e1,H1,hroots⟩ ?_
   clear hroots hc1 H1 e1 q1
   rintro m ⟨⟩ M ⟨q1,c,rfl,rfl,e1,H1,hroots⟩ X hX
   refine ah (cP.op tk fun pb ps=> ?_)
   refine ai (k:= .ptr) (b:=t) (off:=2) (x:=some ⟨ps,0,none⟩) (by rw[af]) tk rfl ?_
   refine ae (oV ps q1.bT room q1.over) ag ?_
   rintro x' M ⟨rfl,rfl⟩
   try simp only[aq,al]
   refine aj (fun ho=> ?_) (fun ho=> ?_)
   ·refine ah ?_
    refine ai (k:= .ptr) (b:=t) (off:=2) (x:=some ⟨ps,0,none⟩) (by rw[af]) tk rfl ?_
    refine ae (nU ps q1.bT room q1.over) ag ?_
    rintro x' M rfl
    try simp only[aq,al]
    refine Tr.close ag (cP.cl (t:=t) (ph:=ph) (pb:=pb) (ps:=ps) (m:=q1.m) (bT:=q1.bT) (room:=room) (over:=false) (deep:=q1.deep)) ?_
    have H2:Mk.Inv S cs room q.m (Mk.jM S cs l) (q1.m.count false) ⟨q1.m,q1.bT,false,q1.deep⟩ (Mk.all q1.m):=⟨H1.len,H1.lT,H1.new,H1.obj,fun _ a ha=> .inr (.inl (Mk.fE.mpr ha)),H1.bT,H1.small,H1.lr,H1.lq,fun h=>by cases h⟩
    have hlen1:=H1.len
    refine ae (pS t ph room ⟨q1.m,q1.bT,false,q1.deep⟩ (by dsimp only;omega)) ag ?_
    rintro r M rfl
    try simp only[aq,al]
    have hal:=Mk.fF (m:=q1.m)
    have hmem:∀a∈Mk.all q1.m,Sp.has q1.m a=true:=fun a ha=>Mk.fE.mp ha
    generalize Mk.all q1.m=E at*
    rw[if_pos ho]at hX
    refine Tr.jZ (s:=r) (xs:=E) tk fun hrn=> ?_
    refine Tr.take (A:=au ph S cs) tk (Tr.take (A:=cP t ph room ⟨q1.m,q1.bT,false,q1.deep⟩) tk ?_)
    refine aP (fun m u M=>(fun(i:Int)=>∃q2,M=cP t ph room q2::au ph S cs::aE r 1 (E.map i64)::(A++R)∧0≤i∧i≤E.length∧m=E.length-i.toNat∧q2.bT=[]∧Mk.Inv S cs room q.m (Mk.jM S cs l) (q1.m.count false) q2 (E.drop i.toNat)∧q2.m.count false≤q1.m.count false∧∀a,Sp.has q1.m a=true→Sp.has q2.m a=true) u.1) E.length ?_ ?_
    ·exact⟨⟨q1.m,q1.bT,false,q1.deep⟩,rfl,by simp,by dsimp only;omega,by simp,e1,H2,Nat.le_refl _,fun _ h=>h⟩
    ·clear h i0 i1 i
     rintro m ⟨(i:Int),⟨⟩⟩ M ⟨q2,rfl,i0,i1,rfl,e2,H3,hc2,hmono⟩ Y hY
     dsimp only at H3 hY⊢
     refine aj (fun h=> ?_) (fun h=> ?_)
     ·replace h:i<(r.n:Int):=of_decide_eq_true h
      have hi:i.toNat<E.length:=by omega
      have hin:E.getD i.toNat 0∈E:=by rw[List.getD_eq_getElem?_getD,List.getElem?_eq_getElem hi];exact List.getElem_mem hi
      rw[iF 0 hi]at H3
      refine dY (s:=r) (xs:=E) tk i0 (by omega) ?_
      generalize E.getD i.toNat 0=x at*
      have hx:=hmono x (hmem x hin)
      obtain⟨j1,j2,j3,j4⟩:=H3.fields hw hm0 hR hx (by omega)
      refine ae (ko t ph room hr S cs hw q2 H3.ok x) ag ?_
      rintro x' M rfl
      try simp only[aq,al]
      generalize Mk.fields S cs room q2 x=q3 at*
      refine ae (jx t ph room hr S cs hw hm0 hR q3 j1 (by omega)) ag ?_
      rintro x' M ⟨q4,rfl,H4,e4,hc4,hmono4⟩
      try simp only[aq,al]
      rw[wrap64 (n:=i+1) (by omega) (by omega)]
      refine hY (E.length-(i+1).toNat) _ _ (by omega) ⟨q4,rfl,by dsimp only;omega,by dsimp only;omega,rfl,e4,?_,by omega,fun a ha=>hmono4 a (j4 a (hmono a ha))⟩
      dsimp only
      rw[show(i+1).toNat=i.toNat+1 by omega];exact H4
     ·replace h:¬i<(r.n:Int):=of_decide_eq_false h
      rw[List.drop_eq_nil_of_le (by omega)]at H3
      refine Tr.drop (A:=aE r 1 (E.map i64)) tk ?_
      refine hX _ _ _ ?_ ⟨q2,_,rfl,rfl,e2,H3,fun a ha ho=>hmono a (hroots a ha ho)⟩
      split
      ·rename_i ho2
       have:=H3.lost ho2
       omega
      ·omega
   ·refine Tr.close ag (cP.cl (t:=t) (ph:=ph) (pb:=pb) (ps:=ps) (m:=q1.m) (bT:=q1.bT) (room:=room) (over:=q1.over) (deep:=q1.deep)) ?_
    have hcl:=H1.over hm0 e1 ho
    refine aa (x:=()) rfl ⟨q1,rfl,⟨hcl,e1,ho,H1.lr,H1.lq⟩,fun a=>⟨H1.new a,?_⟩⟩ (.cons .here (.cons .here (aI.app A R))) aB
    rintro(h|h)
    ·exact H1.lT a h
    ·exact hcl.Fh hroots h
end Go.Proofs.YtfepdmpplahloaaGreat
