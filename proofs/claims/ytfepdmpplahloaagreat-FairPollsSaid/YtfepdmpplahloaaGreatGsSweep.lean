/- Sweeps: what is found behind a freeing; contracts of Dead, Sweep. -/
import Derived.Test.YtfepdmpplahloaaGreatGsGraph2
set_option linter.unusedSimpArgs false
set_option linter.unusedVariables false
namespace Go.Proofs.YtfepdmpplahloaaGreat
open Go Go.Gl
variable{ρ0 ρ:FR}{L L':List aA}{Post:Value→List aA→Prop}{T:Tree}
theorem o5{l l':List Int}(h1:l.Pairwise (·<·))(h2:l'.Pairwise (·<·))(h:∀a,a∈l↔a∈l'):l=l':=by
 have hp:l.Perm l':=by
  rw[List.perm_ext_iff_of_nodup (h1.imp fun h=>by omega) (h2.imp fun h=>by omega)];exact h
 have s1:Sp.sort l=l:=Sp.oD (h1.imp fun h=>by omega)
 have s2:Sp.sort l'=l':=Sp.oD (h2.imp fun h=>by omega)
 rw[←s1,←s2,Sp.kP hp]
theorem qD{S:aD}(hw:Wf S){a w:Nat}(hf:Sp.find S a=some (a,w)):
  (Sp.cJ S a).1=0∧(Sp.cJ S a).2.ws=S.ws∧(Sp.cJ S a).2.pg.length=S.pg.length∧∀m:Nat,Sp.find (Sp.cJ S a).2 m=if a≤m∧m<a+w then none else Sp.find S m:=by
 have hlen:=hw.len
 have hw':=Sp.wG hw a
 obtain⟨hn,hcase⟩:=Sp.jm hw hf rfl
 have e0:Sp.cJ S a=match S.pg[a/64]? with
    |some (.small c l)=>(0,⟨S.ws,S.pg.set (a/64) (if(l.set (a%64/Sp.sz c) false).count true=0 then .free else .small c (l.set (a%64/Sp.sz c) false))⟩)
    |some (.head k)=>(0,⟨S.ws,Sp.fQ S.pg (a/64) k⟩)
    |_=>(0,S):=by
  unfold Sp.cJ;rw[hf];dsimp only;rw[if_pos rfl];rfl
 rcases hcase with ⟨c,l,k,g1,g2,g3,g4,g5,g6,g7⟩|⟨k,g1,g2,g3⟩
 ·have hk:k<l.length:=by
   rcases Nat.lt_or_ge k l.length with c|c
   ·exact c
   ·rw[List.getD_eq_getElem?_getD,List.getElem?_eq_none c]at g5;cases g5
  obtain⟨f1,f2,f3⟩:=lH g2 hk g3
  have hp:=aV g1
  rw[g1]at e0
  dsimp only at e0
  rw[←g4]at e0
  rw[e0]at hw'⊢
  refine⟨rfl,rfl,by simp,fun m=> ?_⟩
  dsimp only at hw'⊢
  by_cases hml:m<S.ws.length
  ·by_cases hm:m/64=a/64
   ·have hidx:(a≤m∧m<a+w)↔m%64/Sp.sz c=k:=by
     have hd:=Nat.div_add_mod (m%64) (Sp.sz c)
     have hlt:=Nat.mod_lt (m%64) (show 0<Sp.sz c by omega)
     constructor
     ·rintro⟨t1,t2⟩
      have hx:k*Sp.sz c≤m%64∧m%64<k*Sp.sz c+Sp.sz c:=by omega
      have:=Nat.div_le_div_right (c:=Sp.sz c) hx.1
      rw[Nat.mul_div_cancel _ (by omega)]at this
      have h2:m%64/Sp.sz c<k+1:=(Nat.div_lt_iff_lt_mul (by omega)).mpr (by rw[Nat.add_mul];omega)
      omega
     ·intro g
      rw[g]at hd
      rw[Nat.mul_comm]at hd
      omega
    have hfS:Sp.find S m=if l.getD (m%64/Sp.sz c) false then some (m/64*64+m%64/Sp.sz c*Sp.sz c,Sp.sz c)else none:=Sp.dy hml (by rw[hm];exact g1)
    have hnew:∀X:Pg,(S.pg.set (a/64) X)[m/64]? =some X:=fun X=>by rw[cB hp,if_pos hm.symm]
    by_cases hcnt:(l.set k false).count true=0
    ·rw[if_pos hcnt]at hw'⊢
     have hfr:=hnew .free
     rw[Sp.cO (S:=⟨S.ws,S.pg.set (a/64) .free⟩) hml (fun c l hc=>by dsimp only at hc;rw[hfr]at hc;cases hc),mF hw' hfr,Option.map_none]
     by_cases hi:m%64/Sp.sz c=k
     ·rw[if_pos (hidx.mpr hi)]
     ·rw[if_neg (fun h=>hi (hidx.mp h)),hfS]
      have:l.getD (m%64/Sp.sz c) false=false:=by
       cases hg:l.getD (m%64/Sp.sz c) false with
       |false=>rfl
       |true=>
        exfalso
        have hlt:m%64/Sp.sz c<l.length:=by
         rcases Nat.lt_or_ge (m%64/Sp.sz c) l.length with c|c
         ·exact c
         ·rw[List.getD_eq_getElem?_getD,List.getElem?_eq_none c]at hg;cases hg
        have hmem:true∈l.set k false:=by
         refine List.mem_iff_getElem?.mpr ⟨m%64/Sp.sz c,?_⟩
         rw[List.getElem?_set_ne (fun e=>hi e.symm)]
         rw[List.getD_eq_getElem?_getD,List.getElem?_eq_getElem hlt]at hg
         rw[List.getElem?_eq_getElem hlt];exact congrArg some hg
        have:=List.count_pos_iff.mpr hmem
        omega
      rw[this];rfl
    ·rw[if_neg hcnt]at hw'⊢
     rw[Sp.dy (S:=⟨S.ws,S.pg.set (a/64) (.small c (l.set k false))⟩) hml (hnew _),hfS]
     by_cases hi:m%64/Sp.sz c=k
     ·rw[if_pos (hidx.mpr hi),hi,List.getD_eq_getElem?_getD,List.getElem?_set,if_pos rfl,if_pos hk];rfl
     ·rw[if_neg (fun h=>hi (hidx.mp h)),List.getD_eq_getElem?_getD,List.getElem?_set_ne (fun e=>hi e.symm),←List.getD_eq_getElem?_getD]
   ·rw[if_neg (show¬(a≤m∧m<a+w) by omega)]
    have nh:∀k,S.pg[a/64]? ≠some (.head k):=by intro k h;rw[g1]at h;cases h
    refine oQ hw hw' rfl (by dsimp only;rw[cB hp,if_neg (fun e=>hm e.symm)]) ?_
    refine sQ hw' hw fun j k' t1 t2=>(gC nh (fun k h=> ?_) j k').symm
    split at h<;>cases h
  ·rw[if_neg (show¬(a≤m∧m<a+w) by omega),Sp.dA (by dsimp only;omega),Sp.dA (by omega)]
 ·rw[g1]at e0
  dsimp only at e0
  rw[e0]at hw'⊢
  refine⟨rfl,rfl,by simp[iD],fun m=> ?_⟩
  dsimp only at hw'⊢
  obtain⟨k1,k2,k3,k4⟩:=hw.head _ _ g1
  by_cases hml:m<S.ws.length
  ·by_cases hm:a≤m∧m<a+w
   ·rw[if_pos hm]
    have hfr:(Sp.fQ S.pg (a/64) k)[m/64]? =some .free:=by rw[db,if_pos (by omega),if_pos (by omega)]
    rw[Sp.cO (S:=⟨S.ws,Sp.fQ S.pg (a/64) k⟩) hml (fun c l hc=>by dsimp only at hc;rw[hfr]at hc;cases hc),mF hw' hfr];rfl
   ·rw[if_neg hm]
    have hoff:¬(a/64≤m/64∧m/64<a/64+k):=by omega
    refine oQ hw hw' rfl (by dsimp only;rw[dq hoff]) ?_
    refine sQ hw' hw fun j k' t1 t2=> ?_
    dsimp only
    by_cases hj:a/64≤j∧j<a/64+k
    ·constructor
     ·intro h;rw[db,if_pos (by omega),if_pos hj]at h;cases h
     ·intro h
      exfalso
      rcases Nat.lt_or_ge (a/64) j with c|c
      ·rw[k4 j c hj.2]at h;cases h
      ·have:j=a/64:=by omega
       subst this
       rw[g1]at h;injection h with h;injection h with h
       omega
    ·rw[dq hj]
  ·rw[if_neg (by omega),Sp.dA (by dsimp only;omega),Sp.dA (by omega)]
theorem aO.free{S:aD}{cs:List aS}(hw:aO S cs)(a:Int):aO (Sp.cJ S a).2 cs:=by
 cases hf:Sp.find S a with
 |none=>(have:Sp.cJ S a=(2,S):=by unfold Sp.cJ;rw[hf]);rw[this];exact hw
 |some x=>
  obtain⟨s,w⟩:=x
  by_cases hs:(s:Int)=a
  ·subst hs
   obtain⟨h0,h1,h2,h3⟩:=qD hw.wf hf
   refine⟨Sp.wG hw.wf _,fun n w' hn=> ?_,hw.cls,hw.refs⟩
   rw[h3]at hn
   split at hn
   ·cases hn
   ·rw[h1];exact hw.obj n w' hn
  ·have:Sp.cJ S a=(2,S):=by unfold Sp.cJ;rw[hf];dsimp only;rw[if_neg hs]
   rw[this];exact hw
def Sw.mm(S:aD)(l:List Int):aD:=l.foldl (fun S a=>(Sp.cJ S a).2) S
structure Sw.Left(S S':aD)(cs:List aS)(l:List Int):Prop where
 hw:aO S' cs
 ws:S'.ws=S.ws
 jL:S'.pg.length=S.pg.length
 find:∀n w:Nat,Sp.find S' n=some (n,w)↔(Sp.find S n=some (n,w)∧(n:Int)∉l)
 head:∀b,Ob.head S' b=if b∈l then none else Ob.head S b
theorem Sw.Left.one{S:aD}{cs:List aS}(hw:aO S cs){a:Int}(ha:a∈Sp.each S):(Sp.cJ S a).1=0∧Sw.Left S (Sp.cJ S a).2 cs [a]:=by
 obtain⟨n,w,rfl,hf⟩:=(cg hw.wf).mp ha
 obtain⟨h0,h1,h2,h3⟩:=qD hw.wf hf
 refine⟨h0,hw.free _,h1,h2,fun m w'=> ?_,fun b=> ?_⟩
 ·rw[h3,List.mem_singleton]
  split
  ·rename_i hc
   have hin:=jw hw.wf hf hc.1 hc.2
   constructor
   ·intro h;cases h
   ·rintro⟨h,hne⟩
    rw[hin]at h;injection h with h;injection h with h _
    exact absurd (by omega) hne
  ·rename_i hc
   constructor
   ·intro h
    refine⟨h,fun e=>hc ?_⟩
    have hb:=hw.obj n w hf
    obtain⟨hd,t1,t2,t3⟩:=hb
    have:=Sp.bU t1
    omega
   ·exact fun h=>h.1
 ·simp only[List.mem_singleton]
  by_cases hb:b=n
  ·rw[if_pos hb,hb]
   unfold Ob.head
   obtain⟨hd,t1,t2,t3⟩:=hw.obj n w hf
   have:=Sp.bU t1
   rw[h3 n,if_pos ⟨by omega,by omega⟩]
  ·rw[if_neg hb]
   unfold Ob.head
   by_cases hb0:0≤b
   ·obtain⟨m,rfl⟩:=Int.eq_ofNat_of_zero_le hb0
    rw[h3 m,h1]
    by_cases hc:n≤m∧m<n+w
    ·rw[if_pos hc,jw hw.wf hf hc.1 hc.2]
     dsimp only
     rw[if_neg (fun e=>hb e.symm)]
    ·rw[if_neg hc]
   ·rw[Sp.dA (by omega),Sp.dA (by omega)]
theorem Sw.Left.each{S S':aD}{cs:List aS}{l:List Int}(hw:aO S cs)(h:Sw.Left S S' cs l):Sp.each S'=(Sp.each S).filter fun a=>decide (a∉l):=by
 refine o5 (Sp.hG h.hw.wf) ((Sp.hG hw.wf).filter _) fun a=> ?_
 rw[cg h.hw.wf,List.mem_filter,cg hw.wf,decide_eq_true_iff]
 constructor
 ·rintro⟨n,w,rfl,hf⟩
  obtain⟨h1,h2⟩:=(h.find n w).mp hf
  exact⟨⟨n,w,rfl,h1⟩,h2⟩
 ·rintro⟨⟨n,w,rfl,hf⟩,h2⟩
  exact⟨n,w,rfl,(h.find n w).mpr ⟨hf,h2⟩⟩
theorem Sw.Left.nil{S:aD}{cs:List aS}(hw:aO S cs):Sw.Left S S cs []:=⟨hw,rfl,rfl,by simp,by simp⟩
theorem Sw.Left.trans{S S' S'':aD}{cs:List aS}{l l':List Int}(h:Sw.Left S S' cs l)(h':Sw.Left S' S'' cs l'):Sw.Left S S'' cs (l++l'):=by
 refine⟨h'.hw,h'.ws.trans h.ws,h'.jL.trans h.jL,fun n w=> ?_,fun b=> ?_⟩
 ·rw[h'.find,h.find,List.mem_append]
  constructor
  ·rintro⟨⟨h1,h2⟩,h3⟩;exact⟨h1,fun h=>h.elim h2 h3⟩
  ·rintro⟨h1,h2⟩;exact⟨⟨h1,fun h=>h2 (.inl h)⟩,fun h=>h2 (.inr h)⟩
 ·rw[h'.head,h.head]
  by_cases h1:b∈l'
  ·rw[if_pos h1,if_pos (List.mem_append.mpr (.inr h1))]
  ·rw[if_neg h1]
   by_cases h2:b∈l
   ·rw[if_pos h2,if_pos (List.mem_append.mpr (.inl h2))]
   ·rw[if_neg h2,if_neg (fun h=>(List.mem_append.mp h).elim h2 h1)]
theorem Sw.pc{S:aD}{l:List Int}{a:Int}:Sw.mm S (l++[a])=(Sp.cJ (Sw.mm S l) a).2:=by unfold Sw.mm;rw[List.foldl_append];rfl
theorem Sw.mO{S:aD}{cs:List aS}(hw:aO S cs){l:List Int}(hn:l.Nodup)(hs:∀a∈l,a∈Sp.each S):∀i,i≤l.length→Sw.Left S (Sw.mm S (l.take i)) cs (l.take i)
 |0,_=> .nil hw
 |i+1,hi=>by
  have ih:=Sw.mO hw hn hs i (by omega)
  rw[aJ 0 (by omega),Sw.pc]
  refine ih.trans (Sw.Left.one ih.hw ?_).2
  rw[ih.each hw,List.mem_filter,decide_eq_true_iff]
  have hget:l.getD i 0=l[i]:=by rw[List.getD_eq_getElem?_getD,List.getElem?_eq_getElem (by omega)];rfl
  rw[hget]
  refine⟨hs _ (List.getElem_mem _),fun hm=> ?_⟩
  obtain⟨j,hj,e⟩:=List.mem_iff_getElem.mp hm
  rw[List.getElem_take]at e
  simp at hj
  exact List.pairwise_iff_getElem.mp hn j i (by omega) (by omega) (by omega) e
def Sw.dead(S:aD)(live:List Int):List Int:=(Sp.each S).filter fun a=>decide (a∉live)
theorem Sw.we{S:aD}(hw:Wf S)(live:List Int):(Sw.dead S live).Nodup∧∀a∈Sw.dead S live,a∈Sp.each S:=
 ⟨(eh hw).filter _,fun a ha=>(List.mem_filter.mp ha).1⟩
def Sw.cz(S:aD)(live:List Int):aD:=Sw.mm S (Sw.dead S live)
theorem Sw.jQ{S:aD}{cs:List aS}(hw:aO S cs)(live:List Int):Sw.Left S (Sw.cz S live) cs (Sw.dead S live):=by
 obtain⟨h1,h2⟩:=Sw.we hw.wf live
 have:=Sw.mO hw h1 h2 (Sw.dead S live).length (Nat.le_refl _)
 rwa [List.take_length]at this
theorem qQ{α:Type}{k k':Int}{a:α}:∀{l:List (Int×α)},di k (gq k' a l)=if k=k' then some a else di k l
 |[]=>by
  unfold gq di
  by_cases h:k'=k
  ·rw[if_pos h,if_pos h.symm]
  ·rw[if_neg h,if_neg (fun e=>h e.symm)];rfl
 |x::l=>by
  unfold gq
  by_cases hx:x.1=k'
  ·rw[if_pos hx]
   unfold di
   dsimp only
   by_cases h:k'=k
   ·rw[if_pos h,if_pos h.symm]
   ·rw[if_neg h,if_neg (fun e=>h e.symm),if_neg (by omega)]
  ·rw[if_neg hx]
   unfold di
   by_cases h:x.1=k
   ·rw[if_pos h,if_pos h,if_neg (by omega)]
   ·rw[if_neg h,if_neg h,qQ]
theorem FA:Tryz.prog.underlying 257=some (.map 3 4):=by kernel_rfl
theorem zB:(Tryz.prog.info? 4).bind (·.zero)=some (LK.bool.val false):=by kernel_rfl
theorem vr(p:Nat)(S:aD)(cs:List aS)(hw:aO S cs){A:List aA}(s:ay)(live:List Int)(ro:Rd ρ A s 1 (live.map i64))(hl:live.length<2^40):Gl.Spec ρ Tryz.prog 151 [.pointer (some ⟨p,0,none⟩),.slice s.a s.n s.c] (au p S cs::A) RS
  fun r M=>M=aE r 1 ((Sw.dead S live).map i64)::au p S cs::A:=by
 have hel:=Sp.cV hw.wf
 refine Spec.of (fun Q w h=>F.cz.uS.calls (some ⟨p,0,none⟩) s h) fun R=> ?_
 unfold F.cz.uS
 try simp only[aq,al]
 have hsn:=ro.len
 refine ak rfl (oK bv fun b1=> ?_)
 refine aP (fun m u M=>(fun(i:Int)=>∃l:List (Int×Bool),M=IM b1 bv l::au p S cs::(A++R)∧0≤i∧i≤live.length∧m=live.length-i.toNat∧∀x,di x l=if x∈live.take i.toNat then some true else none) u.1) live.length ?_ ?_
 ·exact⟨[],rfl,by simp,by dsimp only;omega,by simp,fun x=>by simp[di]⟩
 ·rintro m ⟨(i:Int),⟨⟩⟩ M ⟨l,rfl,i0,i1,rfl,hg⟩ X hX
  dsimp only at*
  refine aj (fun h=> ?_) (fun h=> ?_)
  ·replace h:i<(s.n:Int):=of_decide_eq_true h
   have hi:i.toNat<live.length:=by omega
   refine iP ro (aI.app A R).mn.mn i0 (by omega) ?_
   refine nf (f:=bv) (a:=true) FA uI rfl tk ?_
   rw[wrap64 (by omega) (by omega)]
   refine hX (live.length-(i+1).toNat) _ _ (by omega) ⟨_,rfl,by dsimp only;omega,by dsimp only;omega,rfl,fun x=> ?_⟩
   dsimp only
   rw[qQ,hg,show(i+1).toNat=i.toNat+1 by omega,aJ 0 hi]
   simp only[List.mem_append,List.mem_singleton]
   by_cases h1:x=live.getD i.toNat 0
   ·rw[if_pos h1,if_pos (.inr h1)]
   ·rw[if_neg h1]
    by_cases h2:x∈live.take i.toNat
    ·rw[if_pos h2,if_pos (.inl h2)]
    ·rw[if_neg h2,if_neg (fun h=>h.elim h2 h1)]
  ·replace h:¬i<(s.n:Int):=of_decide_eq_false h
   rw[List.take_of_length_le (by omega)]at hg
   clear hX
   refine ah (au.op tk fun ps pt=> ?_)
   refine ai (k:= .ptr) (b:=p) (off:=0) (x:=some ⟨ps,0,none⟩) (by rw[af]) tk rfl ?_
   refine ae (fx ps S hw.wf) ag ?_
   rintro q M ⟨hq,rfl⟩
   try simp only[aq,al]
   refine Tr.close ag (au.cl (p:=p) (ps:=ps) (pt:=pt) (S:=S) (cs:=cs)) ?_
   refine Tr.cX (s:=q) tk fun ρ' hle hro=> ?_
   refine Tr.cq 1 ?_
   refine aP (fun m u M=>(fun(t:ay) (i:Int)=>M=aE t 1 ((((Sp.each S).take i.toNat).filter fun a=>decide (a∉live)).map i64)::au p S cs::IM b1 bv l::(A++R)∧0≤i∧i≤(Sp.each S).length∧m=(Sp.each S).length-i.toNat) u.1 u.2.1) (Sp.each S).length ?_ ?_
   ·exact⟨rfl,by simp,by dsimp only;omega,by simp⟩
   ·clear h i0 i1 i
    rintro m ⟨(t:ay),(i:Int),⟨⟩⟩ M ⟨rfl,i0,i1,rfl⟩ X hX
    dsimp only at*
    have hqn:=hro.len
    refine aj (fun h=> ?_) (fun h=> ?_)
    ·replace h:i<(q.n:Int):=of_decide_eq_true h
     have hi:i.toNat<(Sp.each S).length:=by omega
     refine iE hro i0 (by omega) ?_
     have w1:IntKind.wrap .i64 (i+1)=i+1:=wrap64 (by omega) (by omega)
     have ht:(Sp.each S).take (i+1).toNat=(Sp.each S).take i.toNat++[(Sp.each S).getD i.toNat 0]:=by rw[show(i+1).toNat=i.toNat+1 by omega,aJ 0 hi]
     generalize(Sp.each S).getD i.toNat 0=x at ht⊢
     refine mI (kd:= .bool) (g:=id) (z0:=false) (l:=l) FA uI zB (fun a=>rfl) tk ?_
     rw[hg]
     have hfl:=List.length_filter_le (fun a=>decide (a∉live)) ((Sp.each S).take i.toNat)
     have htl:=List.length_take_le i.toNat (Sp.each S)
     by_cases hx:x∈live
     ·rw[if_pos hx]
      refine ak rfl ?_
      rw[w1]
      refine hX ((Sp.each S).length-(i+1).toNat) _ _ (by omega) ⟨?_,by dsimp only;omega,by dsimp only;omega,rfl⟩
      dsimp only
      rw[ht,List.filter_append,List.filter_cons_of_neg (by simp[hx]),List.filter_nil,List.append_nil]
     ·rw[if_neg hx]
      refine aH rfl ?_
      refine gw (s:=t) (xs:=((Sp.each S).take i.toNat).filter fun a=>decide (a∉live)) ca tk (by omega) fun r hr=> ?_
      rw[w1]
      refine hX ((Sp.each S).length-(i+1).toNat) _ _ (by omega) ⟨?_,by dsimp only;omega,by dsimp only;omega,rfl⟩
      dsimp only
      rw[ht,List.filter_append,List.filter_cons_of_pos (by simp[hx]),List.filter_nil]
    ·replace h:¬i<(q.n:Int):=of_decide_eq_false h
     rw[List.take_of_length_le (by omega)]
     refine Tr.drop (A:=IM b1 bv l) tk ?_
     exact aa (x:=t) rfl rfl (aI.app (_::_::A) R) .refl
theorem td(p:Nat)(S:aD)(cs:List aS)(hw:aO S cs){A:List aA}(s:ay)(live:List Int)(ro:Rd ρ A s 1 (live.map i64))(hl:live.length<2^40):Gl.Spec ρ Tryz.prog 113 [.pointer (some ⟨p,0,none⟩),.slice s.a s.n s.c] (au p S cs::A) R1
  fun r M=>r=((Sw.dead S live).length:Nat)∧M=au p (Sw.cz S live) cs::A:=by
 have hel:=Sp.cV hw.wf
 refine Spec.of (fun Q w h=>F.cz.pz.calls (some ⟨p,0,none⟩) s h) fun R=> ?_
 unfold F.cz.pz
 try simp only[aq,al]
 refine ae (vr p S cs hw s live ro hl) (aI.app (_::A) R) ?_
 rintro q M rfl
 try simp only[aq,al]
 refine Tr.cX (s:=q) tk fun ρ' hle hro=> ?_
 have hqn:=hro.len
 have hdl:(Sw.dead S live).length≤(Sp.each S).length:=List.length_filter_le _ _
 obtain⟨hd1,hd2⟩:=Sw.we hw.wf live
 unfold Sw.cz
 generalize Sw.dead S live=d at*
 refine aP (fun m u M=>(fun(n i:Int)=>M=au p (Sw.mm S (d.take i.toNat)) cs::(A++R)∧0≤i∧i≤d.length∧m=d.length-i.toNat∧n=i) u.1 u.2.1) d.length ?_ ?_
 ·exact⟨rfl,by simp,by dsimp only;omega,by simp,rfl⟩
 ·rintro m ⟨(n:Int),(i:Int),⟨⟩⟩ M ⟨rfl,i0,i1,rfl,hni⟩ X hX
  dsimp only at*
  subst hni
  refine aj (fun h=> ?_) (fun h=> ?_)
  ·replace h:n<(q.n:Int):=of_decide_eq_true h
   have hi:n.toNat<d.length:=by omega
   have hF:=Sw.mO hw hd1 hd2 n.toNat (by omega)
   have hF1:=Sw.mO hw hd1 hd2 (n.toNat+1) (by omega)
   have ht:d.take (n+1).toNat=d.take n.toNat++[d.getD n.toNat 0]:=by rw[show(n+1).toNat=n.toNat+1 by omega,aJ 0 hi]
   have hone:(Sp.cJ (Sw.mm S (d.take n.toNat)) (d.getD n.toNat 0)).1=0:=by
    refine(Sw.Left.one hF.hw ?_).1
    rw[hF.each hw,List.mem_filter,decide_eq_true_iff]
    have hget:d.getD n.toNat 0=d[n.toNat]:=by rw[List.getD_eq_getElem?_getD,List.getElem?_eq_getElem hi];rfl
    rw[hget]
    refine⟨hd2 _ (List.getElem_mem _),fun hm=> ?_⟩
    obtain⟨j,hj,e⟩:=List.mem_iff_getElem.mp hm
    rw[List.getElem_take]at e
    simp at hj
    exact List.pairwise_iff_getElem.mp hd1 j n.toNat (by omega) (by omega) (by omega) e
   refine iE hro i0 (by omega) ?_
   refine ah (au.op tk fun ps pt=> ?_)
   refine ai (k:= .ptr) (b:=p) (off:=0) (x:=some ⟨ps,0,none⟩) (by rw[af]) tk rfl ?_
   refine ae (vF ps (Sw.mm S (d.take n.toNat)) hF.hw.wf (d.getD n.toNat 0)) ag ?_
   rintro x' M ⟨rfl,rfl⟩
   try simp only[aq,al]
   rw[hone]
   refine aH rfl ?_
   refine Tr.close ag (au.cl (p:=p) (ps:=ps) (pt:=pt) (S:=(Sp.cJ (Sw.mm S (d.take n.toNat)) (d.getD n.toNat 0)).2) (cs:=cs)) ?_
   rw[wrap64 (by omega) (by omega)]
   refine hX (d.length-(n+1).toNat) _ _ (by omega) ⟨?_,by dsimp only;omega,by dsimp only;omega,rfl,rfl⟩
   dsimp only
   rw[ht,Sw.pc]
  ·replace h:¬n<(q.n:Int):=of_decide_eq_false h
   rw[List.take_of_length_le (by omega)]
   refine aa (x:=((d.length:Nat):Int)) ?_ ⟨rfl,rfl⟩ (aI.app (_::A) R) .refl
   rw[show n=((d.length:Nat):Int) by omega];rfl
end Go.Proofs.YtfepdmpplahloaaGreat
