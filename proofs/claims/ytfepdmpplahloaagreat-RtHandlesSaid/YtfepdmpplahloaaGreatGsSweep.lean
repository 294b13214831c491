/- Sweeps: what is found behind a freeing; contracts of Dead, Sweep. -/
import Derived.Test.YtfepdmpplahloaaGreatGsGraph2
set_option linter.unusedSimpArgs false
set_option linter.unusedVariables false
namespace Go.Proofs.YtfepdmpplahloaaGreat
open Go Go.Gl
variable{ρ0 ρ:FR}{L L':List Asn}{Post:Value→List Asn→Prop}{T:Tree}
theorem sorted_ext{l l':List Int}(h1:l.Pairwise (·<·))(h2:l'.Pairwise (·<·))(h:∀a,a∈l↔a∈l'):l=l':=by
 have hp:l.Perm l':=by
  rw[List.perm_ext_iff_of_nodup (h1.imp fun h=>by omega) (h2.imp fun h=>by omega)];exact h
 have s1:Sp.sort l=l:=Sp.sort_id (h1.imp fun h=>by omega)
 have s2:Sp.sort l'=l':=Sp.sort_id (h2.imp fun h=>by omega)
 rw[←s1,←s2,Sp.sort_perm hp]
theorem find_free{S:Spc}(hw:Wf S){a w:Nat}(hf:Sp.find S a=some (a,w)):
  (Sp.freeS S a).1=0∧(Sp.freeS S a).2.ws=S.ws∧(Sp.freeS S a).2.pg.length=S.pg.length∧∀m:Nat,Sp.find (Sp.freeS S a).2 m=if a≤m∧m<a+w then none else Sp.find S m:=by
 have hlen:=hw.len
 have hw':=Sp.free_wf hw a
 obtain⟨hn,hcase⟩:=Sp.find_at hw hf rfl
 have e0:Sp.freeS S a=match S.pg[a/64]? with
    |some (.small c l)=>(0,⟨S.ws,S.pg.set (a/64) (if(l.set (a%64/Sp.sz c) false).count true=0 then .free else .small c (l.set (a%64/Sp.sz c) false))⟩)
    |some (.head k)=>(0,⟨S.ws,Sp.freeL S.pg (a/64) k⟩)
    |_=>(0,S):=by
  unfold Sp.freeS;rw[hf];dsimp only;rw[if_pos rfl];rfl
 rcases hcase with ⟨c,l,k,g1,g2,g3,g4,g5,g6,g7⟩|⟨k,g1,g2,g3⟩
 ·have hk:k<l.length:=by
   rcases Nat.lt_or_ge k l.length with c|c
   ·exact c
   ·rw[List.getD_eq_getElem?_getD,List.getElem?_eq_none c]at g5;cases g5
  obtain⟨f1,f2,f3⟩:=sz_fit g2 hk g3
  have hp:=getElem?_lt g1
  rw[g1]at e0
  dsimp only at e0
  rw[←g4]at e0
  rw[e0]at hw'⊢
  refine⟨rfl,rfl,by simp,fun m=> ?_⟩
  dsimp only at hw'⊢
  by_cases hml:m<S.ws.length
  ·by_cases hm:m/64=a/64
   ·have hidx:(a≤m∧m<a+w)↔m%64/Sp.sz c=k:=by
     have hd:=Nat.div_add_mod (m%64) (Sp.sz c)
     have hlt:=Nat.mod_lt (m%64) (show 0<Sp.sz c by omega)
     constructor
     ·rintro⟨t1,t2⟩
      have hx:k*Sp.sz c≤m%64∧m%64<k*Sp.sz c+Sp.sz c:=by omega
      have:=Nat.div_le_div_right (c:=Sp.sz c) hx.1
      rw[Nat.mul_div_cancel _ (by omega)]at this
      have h2:m%64/Sp.sz c<k+1:=(Nat.div_lt_iff_lt_mul (by omega)).mpr (by rw[Nat.add_mul];omega)
      omega
     ·intro g
      rw[g]at hd
      rw[Nat.mul_comm]at hd
      omega
    have hfS:Sp.find S m=if l.getD (m%64/Sp.sz c) false then some (m/64*64+m%64/Sp.sz c*Sp.sz c,Sp.sz c)else none:=Sp.find_small hml (by rw[hm];exact g1)
    have hnew:∀X:Pg,(S.pg.set (a/64) X)[m/64]? =some X:=fun X=>by rw[set_get hp,if_pos hm.symm]
    by_cases hcnt:(l.set k false).count true=0
    ·rw[if_pos hcnt]at hw'⊢
     have hfr:=hnew .free
     rw[Sp.find_other (S:=⟨S.ws,S.pg.set (a/64) .free⟩) hml (fun c l hc=>by dsimp only at hc;rw[hfr]at hc;cases hc),own_free hw' hfr,Option.map_none]
     by_cases hi:m%64/Sp.sz c=k
     ·rw[if_pos (hidx.mpr hi)]
     ·rw[if_neg (fun h=>hi (hidx.mp h)),hfS]
      have:l.getD (m%64/Sp.sz c) false=false:=by
       cases hg:l.getD (m%64/Sp.sz c) false with
       |false=>rfl
       |true=>
        exfalso
        have hlt:m%64/Sp.sz c<l.length:=by
         rcases Nat.lt_or_ge (m%64/Sp.sz c) l.length with c|c
         ·exact c
         ·rw[List.getD_eq_getElem?_getD,List.getElem?_eq_none c]at hg;cases hg
        have hmem:true∈l.set k false:=by
         refine List.mem_iff_getElem?.mpr ⟨m%64/Sp.sz c,?_⟩
         rw[List.getElem?_set_ne (fun e=>hi e.symm)]
         rw[List.getD_eq_getElem?_getD,List.getElem?_eq_getElem hlt]at hg
         rw[List.getElem?_eq_getElem hlt];exact congrArg some hg
        have:=List.count_pos_iff.mpr hmem
        omega
      rw[this];rfl
    ·rw[if_neg hcnt]at hw'⊢
     rw[Sp.find_small (S:=⟨S.ws,S.pg.set (a/64) (.small c (l.set k false))⟩) hml (hnew _),hfS]
     by_cases hi:m%64/Sp.sz c=k
     ·rw[if_pos (hidx.mpr hi),hi,List.getD_eq_getElem?_getD,List.getElem?_set,if_pos rfl,if_pos hk];rfl
     ·rw[if_neg (fun h=>hi (hidx.mp h)),List.getD_eq_getElem?_getD,List.getElem?_set_ne (fun e=>hi e.symm),←List.getD_eq_getElem?_getD]
   ·rw[if_neg (show¬(a≤m∧m<a+w) by omega)]
    have nh:∀k,S.pg[a/64]? ≠some (.head k):=by intro k h;rw[g1]at h;cases h
    refine find_pg hw hw' rfl (by dsimp only;rw[set_get hp,if_neg (fun e=>hm e.symm)]) ?_
    refine own_eq hw' hw fun j k' t1 t2=>(heads_set nh (fun k h=> ?_) j k').symm
    split at h<;>cases h
  ·rw[if_neg (show¬(a≤m∧m<a+w) by omega),Sp.find_out (by dsimp only;omega),Sp.find_out (by omega)]
 ·rw[g1]at e0
  dsimp only at e0
  rw[e0]at hw'⊢
  refine⟨rfl,rfl,by simp[freeL_len],fun m=> ?_⟩
  dsimp only at hw'⊢
  obtain⟨k1,k2,k3,k4⟩:=hw.head _ _ g1
  by_cases hml:m<S.ws.length
  ·by_cases hm:a≤m∧m<a+w
   ·rw[if_pos hm]
    have hfr:(Sp.freeL S.pg (a/64) k)[m/64]? =some .free:=by rw[freeL_get,if_pos (by omega),if_pos (by omega)]
    rw[Sp.find_other (S:=⟨S.ws,Sp.freeL S.pg (a/64) k⟩) hml (fun c l hc=>by dsimp only at hc;rw[hfr]at hc;cases hc),own_free hw' hfr];rfl
   ·rw[if_neg hm]
    have hoff:¬(a/64≤m/64∧m/64<a/64+k):=by omega
    refine find_pg hw hw' rfl (by dsimp only;rw[freeL_off hoff]) ?_
    refine own_eq hw' hw fun j k' t1 t2=> ?_
    dsimp only
    by_cases hj:a/64≤j∧j<a/64+k
    ·constructor
     ·intro h;rw[freeL_get,if_pos (by omega),if_pos hj]at h;cases h
     ·intro h
      exfalso
      rcases Nat.lt_or_ge (a/64) j with c|c
      ·rw[k4 j c hj.2]at h;cases h
      ·have:j=a/64:=by omega
       subst this
       rw[g1]at h;injection h with h;injection h with h
       omega
    ·rw[freeL_off hj]
  ·rw[if_neg (by omega),Sp.find_out (by dsimp only;omega),Sp.find_out (by omega)]
theorem HWf.free{S:Spc}{cs:List Cls}(hw:HWf S cs)(a:Int):HWf (Sp.freeS S a).2 cs:=by
 cases hf:Sp.find S a with
 |none=>(have:Sp.freeS S a=(2,S):=by unfold Sp.freeS;rw[hf]);rw[this];exact hw
 |some x=>
  obtain⟨s,w⟩:=x
  by_cases hs:(s:Int)=a
  ·subst hs
   obtain⟨h0,h1,h2,h3⟩:=find_free hw.wf hf
   refine⟨Sp.free_wf hw.wf _,fun n w' hn=> ?_,hw.cls,hw.refs⟩
   rw[h3]at hn
   split at hn
   ·cases hn
   ·rw[h1];exact hw.obj n w' hn
  ·have:Sp.freeS S a=(2,S):=by unfold Sp.freeS;rw[hf];dsimp only;rw[if_neg hs]
   rw[this];exact hw
def Sw.frees(S:Spc)(l:List Int):Spc:=l.foldl (fun S a=>(Sp.freeS S a).2) S
structure Sw.Left(S S':Spc)(cs:List Cls)(l:List Int):Prop where
 hw:HWf S' cs
 ws:S'.ws=S.ws
 pgs:S'.pg.length=S.pg.length
 find:∀n w:Nat,Sp.find S' n=some (n,w)↔(Sp.find S n=some (n,w)∧(n:Int)∉l)
 head:∀b,Ob.head S' b=if b∈l then none else Ob.head S b
theorem Sw.Left.one{S:Spc}{cs:List Cls}(hw:HWf S cs){a:Int}(ha:a∈Sp.each S):(Sp.freeS S a).1=0∧Sw.Left S (Sp.freeS S a).2 cs [a]:=by
 obtain⟨n,w,rfl,hf⟩:=(mem_each hw.wf).mp ha
 obtain⟨h0,h1,h2,h3⟩:=find_free hw.wf hf
 refine⟨h0,hw.free _,h1,h2,fun m w'=> ?_,fun b=> ?_⟩
 ·rw[h3,List.mem_singleton]
  split
  ·rename_i hc
   have hin:=find_in hw.wf hf hc.1 hc.2
   constructor
   ·intro h;cases h
   ·rintro⟨h,hne⟩
    rw[hin]at h;injection h with h;injection h with h _
    exact absurd (by omega) hne
  ·rename_i hc
   constructor
   ·intro h
    refine⟨h,fun e=>hc ?_⟩
    have hb:=hw.obj n w hf
    obtain⟨hd,t1,t2,t3⟩:=hb
    have:=Sp.mayH_is t1
    omega
   ·exact fun h=>h.1
 ·simp only[List.mem_singleton]
  by_cases hb:b=n
  ·rw[if_pos hb,hb]
   unfold Ob.head
   obtain⟨hd,t1,t2,t3⟩:=hw.obj n w hf
   have:=Sp.mayH_is t1
   rw[h3 n,if_pos ⟨by omega,by omega⟩]
  ·rw[if_neg hb]
   unfold Ob.head
   by_cases hb0:0≤b
   ·obtain⟨m,rfl⟩:=Int.eq_ofNat_of_zero_le hb0
    rw[h3 m,h1]
    by_cases hc:n≤m∧m<n+w
    ·rw[if_pos hc,find_in hw.wf hf hc.1 hc.2]
     dsimp only
     rw[if_neg (fun e=>hb e.symm)]
    ·rw[if_neg hc]
   ·rw[Sp.find_out (by omega),Sp.find_out (by omega)]
theorem Sw.Left.each{S S':Spc}{cs:List Cls}{l:List Int}(hw:HWf S cs)(h:Sw.Left S S' cs l):Sp.each S'=(Sp.each S).filter fun a=>decide (a∉l):=by
 refine sorted_ext (Sp.each_sorted h.hw.wf) ((Sp.each_sorted hw.wf).filter _) fun a=> ?_
 rw[mem_each h.hw.wf,List.mem_filter,mem_each hw.wf,decide_eq_true_iff]
 constructor
 ·rintro⟨n,w,rfl,hf⟩
  obtain⟨h1,h2⟩:=(h.find n w).mp hf
  exact⟨⟨n,w,rfl,h1⟩,h2⟩
 ·rintro⟨⟨n,w,rfl,hf⟩,h2⟩
  exact⟨n,w,rfl,(h.find n w).mpr ⟨hf,h2⟩⟩
theorem Sw.Left.nil{S:Spc}{cs:List Cls}(hw:HWf S cs):Sw.Left S S cs []:=⟨hw,rfl,rfl,by simp,by simp⟩
theorem Sw.Left.trans{S S' S'':Spc}{cs:List Cls}{l l':List Int}(h:Sw.Left S S' cs l)(h':Sw.Left S' S'' cs l'):Sw.Left S S'' cs (l++l'):=by
 refine⟨h'.hw,h'.ws.trans h.ws,h'.pgs.trans h.pgs,fun n w=> ?_,fun b=> ?_⟩
 ·rw[h'.find,h.find,List.mem_append]
  constructor
  ·rintro⟨⟨h1,h2⟩,h3⟩;exact⟨h1,fun h=>h.elim h2 h3⟩
  ·rintro⟨h1,h2⟩;exact⟨⟨h1,fun h=>h2 (.inl h)⟩,fun h=>h2 (.inr h)⟩
 ·rw[h'.head,h.head]
  by_cases h1:b∈l'
  ·rw[if_pos h1,if_pos (List.mem_append.mpr (.inr h1))]
  ·rw[if_neg h1]
   by_cases h2:b∈l
   ·rw[if_pos h2,if_pos (List.mem_append.mpr (.inl h2))]
   ·rw[if_neg h2,if_neg (fun h=>(List.mem_append.mp h).elim h2 h1)]
theorem Sw.frees_snoc{S:Spc}{l:List Int}{a:Int}:Sw.frees S (l++[a])=(Sp.freeS (Sw.frees S l) a).2:=by unfold Sw.frees;rw[List.foldl_append];rfl
theorem Sw.frees_ok{S:Spc}{cs:List Cls}(hw:HWf S cs){l:List Int}(hn:l.Nodup)(hs:∀a∈l,a∈Sp.each S):∀i,i≤l.length→Sw.Left S (Sw.frees S (l.take i)) cs (l.take i)
 |0,_=> .nil hw
 |i+1,hi=>by
  have ih:=Sw.frees_ok hw hn hs i (by omega)
  rw[take_succ_getD 0 (by omega),Sw.frees_snoc]
  refine ih.trans (Sw.Left.one ih.hw ?_).2
  rw[ih.each hw,List.mem_filter,decide_eq_true_iff]
  have hget:l.getD i 0=l[i]:=by rw[List.getD_eq_getElem?_getD,List.getElem?_eq_getElem (by omega)];rfl
  rw[hget]
  refine⟨hs _ (List.getElem_mem _),fun hm=> ?_⟩
  obtain⟨j,hj,e⟩:=List.mem_iff_getElem.mp hm
  rw[List.getElem_take]at e
  simp at hj
  exact List.pairwise_iff_getElem.mp hn j i (by omega) (by omega) (by omega) e
def Sw.dead(S:Spc)(live:List Int):List Int:=(Sp.each S).filter fun a=>decide (a∉live)
theorem Sw.dead_ok{S:Spc}(hw:Wf S)(live:List Int):(Sw.dead S live).Nodup∧∀a∈Sw.dead S live,a∈Sp.each S:=
 ⟨(each_nodup hw).filter _,fun a ha=>(List.mem_filter.mp ha).1⟩
def Sw.sweep(S:Spc)(live:List Int):Spc:=Sw.frees S (Sw.dead S live)
theorem Sw.sweep_ok{S:Spc}{cs:List Cls}(hw:HWf S cs)(live:List Int):Sw.Left S (Sw.sweep S live) cs (Sw.dead S live):=by
 obtain⟨h1,h2⟩:=Sw.dead_ok hw.wf live
 have:=Sw.frees_ok hw h1 h2 (Sw.dead S live).length (Nat.le_refl _)
 rwa [List.take_length]at this
theorem aget_aset{α:Type}{k k':Int}{a:α}:∀{l:List (Int×α)},aget k (aset k' a l)=if k=k' then some a else aget k l
 |[]=>by
  unfold aset aget
  by_cases h:k'=k
  ·rw[if_pos h,if_pos h.symm]
  ·rw[if_neg h,if_neg (fun e=>h e.symm)];rfl
 |x::l=>by
  unfold aset
  by_cases hx:x.1=k'
  ·rw[if_pos hx]
   unfold aget
   dsimp only
   by_cases h:k'=k
   ·rw[if_pos h,if_pos h.symm]
   ·rw[if_neg h,if_neg (fun e=>h e.symm),if_neg (by omega)]
  ·rw[if_neg hx]
   unfold aget
   by_cases h:x.1=k
   ·rw[if_pos h,if_pos h,if_neg (by omega)]
   ·rw[if_neg h,if_neg h,aget_aset]
theorem uMB:Tryz.prog.underlying 257=some (.map 3 4):=by kernel_rfl
theorem zB:(Tryz.prog.info? 4).bind (·.zero)=some (LK.bool.val false):=by kernel_rfl
theorem sweep_dead(p:Nat)(S:Spc)(cs:List Cls)(hw:HWf S cs){A:List Asn}(s:Slc)(live:List Int)(ro:Rd ρ A s 1 (live.map i64))(hl:live.length<2^40):Gl.Spec ρ Tryz.prog 151 [.pointer (some ⟨p,0,none⟩),.slice s.a s.n s.c] (HeapA p S cs::A) RS
  fun r M=>M=SLc r 1 ((Sw.dead S live).map i64)::HeapA p S cs::A:=by
 have hel:=Sp.each_len hw.wf
 refine Spec.of (fun Q w h=>F.sweep.Dead.calls (some ⟨p,0,none⟩) s h) fun R=> ?_
 unfold F.sweep.Dead
 try simp only[lca,lna]
 have hsn:=ro.len
 refine en_brf rfl (en_nwIM bv fun b1=> ?_)
 refine en_lp (fun m u M=>(fun(i:Int)=>∃l:List (Int×Bool),M=IM b1 bv l::HeapA p S cs::(A++R)∧0≤i∧i≤live.length∧m=live.length-i.toNat∧∀x,aget x l=if x∈live.take i.toNat then some true else none) u.1) live.length ?_ ?_
 ·exact⟨[],rfl,by simp,by dsimp only;omega,by simp,fun x=>by simp[aget]⟩
 ·rintro m ⟨(i:Int),⟨⟩⟩ M ⟨l,rfl,i0,i1,rfl,hg⟩ X hX
  dsimp only at*
  refine en_br (fun h=> ?_) (fun h=> ?_)
  ·replace h:i<(s.n:Int):=of_decide_eq_true h
   have hi:i.toNat<live.length:=by omega
   refine en_getRd ro (Takes.app A R).skip1.skip1 i0 (by omega) ?_
   refine en_upd (f:=bv) (a:=true) uMB uI rfl tk ?_
   rw[wrap64 (by omega) (by omega)]
   refine hX (live.length-(i+1).toNat) _ _ (by omega) ⟨_,rfl,by dsimp only;omega,by dsimp only;omega,rfl,fun x=> ?_⟩
   dsimp only
   rw[aget_aset,hg,show(i+1).toNat=i.toNat+1 by omega,take_succ_getD 0 hi]
   simp only[List.mem_append,List.mem_singleton]
   by_cases h1:x=live.getD i.toNat 0
   ·rw[if_pos h1,if_pos (.inr h1)]
   ·rw[if_neg h1]
    by_cases h2:x∈live.take i.toNat
    ·rw[if_pos h2,if_pos (.inl h2)]
    ·rw[if_neg h2,if_neg (fun h=>h.elim h2 h1)]
  ·replace h:¬i<(s.n:Int):=of_decide_eq_false h
   rw[List.take_of_length_le (by omega)]at hg
   clear hX
   refine en_nn (HeapA.op tk fun ps pt=> ?_)
   refine en_ld (k:= .ptr) (b:=p) (off:=0) (x:=some ⟨ps,0,none⟩) (by rw[fa_mk]) tk rfl ?_
   refine en_call (space_each ps S hw.wf) tks ?_
   rintro q M ⟨hq,rfl⟩
   try simp only[lca,lna]
   refine Tr.close tks (HeapA.cl (p:=p) (ps:=ps) (pt:=pt) (S:=S) (cs:=cs)) ?_
   refine Tr.keepSL (s:=q) tk fun ρ' hle hro=> ?_
   refine Tr.nilSL 1 ?_
   refine en_lp (fun m u M=>(fun(t:Slc) (i:Int)=>M=SLc t 1 ((((Sp.each S).take i.toNat).filter fun a=>decide (a∉live)).map i64)::HeapA p S cs::IM b1 bv l::(A++R)∧0≤i∧i≤(Sp.each S).length∧m=(Sp.each S).length-i.toNat) u.1 u.2.1) (Sp.each S).length ?_ ?_
   ·exact⟨rfl,by simp,by dsimp only;omega,by simp⟩
   ·clear h i0 i1 i
    rintro m ⟨(t:Slc),(i:Int),⟨⟩⟩ M ⟨rfl,i0,i1,rfl⟩ X hX
    dsimp only at*
    have hqn:=hro.len
    refine en_br (fun h=> ?_) (fun h=> ?_)
    ·replace h:i<(q.n:Int):=of_decide_eq_true h
     have hi:i.toNat<(Sp.each S).length:=by omega
     refine en_getRo hro i0 (by omega) ?_
     have w1:IntKind.wrap .i64 (i+1)=i+1:=wrap64 (by omega) (by omega)
     have ht:(Sp.each S).take (i+1).toNat=(Sp.each S).take i.toNat++[(Sp.each S).getD i.toNat 0]:=by rw[show(i+1).toNat=i.toNat+1 by omega,take_succ_getD 0 hi]
     generalize(Sp.each S).getD i.toNat 0=x at ht⊢
     refine en_lkp1 (kd:= .bool) (g:=id) (z0:=false) (l:=l) uMB uI zB (fun a=>rfl) tk ?_
     rw[hg]
     have hfl:=List.length_filter_le (fun a=>decide (a∉live)) ((Sp.each S).take i.toNat)
     have htl:=List.length_take_le i.toNat (Sp.each S)
     by_cases hx:x∈live
     ·rw[if_pos hx]
      refine en_brf rfl ?_
      rw[w1]
      refine hX ((Sp.each S).length-(i+1).toNat) _ _ (by omega) ⟨?_,by dsimp only;omega,by dsimp only;omega,rfl⟩
      dsimp only
      rw[ht,List.filter_append,List.filter_cons_of_neg (by simp[hx]),List.filter_nil,List.append_nil]
     ·rw[if_neg hx]
      refine en_brt rfl ?_
      refine en_appI (s:=t) (xs:=((Sp.each S).take i.toNat).filter fun a=>decide (a∉live)) appInt tk (by omega) fun r hr=> ?_
      rw[w1]
      refine hX ((Sp.each S).length-(i+1).toNat) _ _ (by omega) ⟨?_,by dsimp only;omega,by dsimp only;omega,rfl⟩
      dsimp only
      rw[ht,List.filter_append,List.filter_cons_of_pos (by simp[hx]),List.filter_nil]
    ·replace h:¬i<(q.n:Int):=of_decide_eq_false h
     rw[List.take_of_length_le (by omega)]
     refine Tr.drop (A:=IM b1 bv l) tk ?_
     exact en_rets (x:=t) rfl rfl (Takes.app (_::_::A) R) .refl
theorem sweep_sweep(p:Nat)(S:Spc)(cs:List Cls)(hw:HWf S cs){A:List Asn}(s:Slc)(live:List Int)(ro:Rd ρ A s 1 (live.map i64))(hl:live.length<2^40):Gl.Spec ρ Tryz.prog 113 [.pointer (some ⟨p,0,none⟩),.slice s.a s.n s.c] (HeapA p S cs::A) R1
  fun r M=>r=((Sw.dead S live).length:Nat)∧M=HeapA p (Sw.sweep S live) cs::A:=by
 have hel:=Sp.each_len hw.wf
 refine Spec.of (fun Q w h=>F.sweep.Sweep.calls (some ⟨p,0,none⟩) s h) fun R=> ?_
 unfold F.sweep.Sweep
 try simp only[lca,lna]
 refine en_call (sweep_dead p S cs hw s live ro hl) (Takes.app (_::A) R) ?_
 rintro q M rfl
 try simp only[lca,lna]
 refine Tr.keepSL (s:=q) tk fun ρ' hle hro=> ?_
 have hqn:=hro.len
 have hdl:(Sw.dead S live).length≤(Sp.each S).length:=List.length_filter_le _ _
 obtain⟨hd1,hd2⟩:=Sw.dead_ok hw.wf live
 unfold Sw.sweep
 generalize Sw.dead S live=d at*
 refine en_lp (fun m u M=>(fun(n i:Int)=>M=HeapA p (Sw.frees S (d.take i.toNat)) cs::(A++R)∧0≤i∧i≤d.length∧m=d.length-i.toNat∧n=i) u.1 u.2.1) d.length ?_ ?_
 ·exact⟨rfl,by simp,by dsimp only;omega,by simp,rfl⟩
 ·rintro m ⟨(n:Int),(i:Int),⟨⟩⟩ M ⟨rfl,i0,i1,rfl,hni⟩ X hX
  dsimp only at*
  subst hni
  refine en_br (fun h=> ?_) (fun h=> ?_)
  ·replace h:n<(q.n:Int):=of_decide_eq_true h
   have hi:n.toNat<d.length:=by omega
   have hF:=Sw.frees_ok hw hd1 hd2 n.toNat (by omega)
   have hF1:=Sw.frees_ok hw hd1 hd2 (n.toNat+1) (by omega)
   have ht:d.take (n+1).toNat=d.take n.toNat++[d.getD n.toNat 0]:=by rw[show(n+1).toNat=n.toNat+1 by omega,take_succ_getD 0 hi]
   have hone:(Sp.freeS (Sw.frees S (d.take n.toNat)) (d.getD n.toNat 0)).1=0:=by
    refine(Sw.Left.one hF.hw ?_).1
    rw[hF.each hw,List.mem_filter,decide_eq_true_iff]
    have hget:d.getD n.toNat 0=d[n.toNat]:=by rw[List.getD_eq_getElem?_getD,List.getElem?_eq_getElem hi];rfl
    rw[hget]
    refine⟨hd2 _ (List.getElem_mem _),fun hm=> ?_⟩
    obtain⟨j,hj,e⟩:=List.mem_iff_getElem.mp hm
    rw[List.getElem_take]at e
    simp at hj
    exact List.pairwise_iff_getElem.mp hd1 j n.toNat (by omega) (by omega) (by omega) e
   refine en_getRo hro i0 (by omega) ?_
   refine en_nn (HeapA.op tk fun ps pt=> ?_)
   refine en_ld (k:= .ptr) (b:=p) (off:=0) (x:=some ⟨ps,0,none⟩) (by rw[fa_mk]) tk rfl ?_
   refine en_call (space_free ps (Sw.frees S (d.take n.toNat)) hF.hw.wf (d.getD n.toNat 0)) tks ?_
   rintro x' M ⟨rfl,rfl⟩
   try simp only[lca,lna]
   rw[hone]
   refine en_brt rfl ?_
   refine Tr.close tks (HeapA.cl (p:=p) (ps:=ps) (pt:=pt) (S:=(Sp.freeS (Sw.frees S (d.take n.toNat)) (d.getD n.toNat 0)).2) (cs:=cs)) ?_
   rw[wrap64 (by omega) (by omega)]
   refine hX (d.length-(n+1).toNat) _ _ (by omega) ⟨?_,by dsimp only;omega,by dsimp only;omega,rfl,rfl⟩
   dsimp only
   rw[ht,Sw.frees_snoc]
  ·replace h:¬n<(q.n:Int):=of_decide_eq_false h
   rw[List.take_of_length_le (by omega)]
   refine en_rets (x:=((d.length:Nat):Int)) ?_ ⟨rfl,rfl⟩ (Takes.app (_::A) R) .refl
   rw[show n=((d.length:Nat):Int) by omega];rfl
end Go.Proofs.YtfepdmpplahloaaGreat
