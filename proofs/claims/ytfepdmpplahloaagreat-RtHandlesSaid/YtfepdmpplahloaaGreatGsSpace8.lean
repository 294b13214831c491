/- Space5 Space6 Space7 Space8. -/
import Derived.Test.YtfepdmpplahloaaGreatGsSpace4
set_option linter.unusedSimpArgs false
set_option linter.unusedVariables false
namespace Go.Proofs.YtfepdmpplahloaaGreat
open Go Go.Gl
variable{ρ0 ρ:FR}{L L':List Asn}{Post:Value→List Asn→Prop}{T:Tree}
def Sp.hasS(pg:List Pg)(i c:Nat)(l:List Bool):Prop:=pg[i]? =some (.small c l)∨(pg[i]? =some .free∧l=List.replicate (64/Sp.sz c) false∧Sp.run (pg.map Pg.taken) 1=some i)
theorem Sp.place_cases{S:Spc}(hw:Wf S){w:Int}(hb:Sp.blk w≠0):
  Sp.place S.pg w=(0,3,S.pg)∨
  (∃i k:Nat,Sp.cls w<0∧Sp.pgs w=k∧1≤k∧k≤16∧Sp.blk w=((k*64:Nat):Int)∧i+k≤S.pg.length∧(∀j:Nat,i≤j→j<i+k→S.pg[j]? =some .free)∧Sp.place S.pg w=(((i*64:Nat):Int),0,Sp.putL S.pg i k))∨
  (∃(c i k:Nat) (l:List Bool),Sp.cls w=c∧c<5∧Sp.blk w=(Sp.sz c:Int)∧i<S.pg.length∧Sp.hasS S.pg i c l∧l.length=64/Sp.sz c∧k<l.length∧l.getD k false=false∧
   Sp.place S.pg w=(((i*64+k*Sp.sz c:Nat):Int),0,S.pg.set i (.small c (l.set k true)))):=by
 by_cases h:Sp.cls w<0
 ·obtain⟨k1,k2,k3⟩:=Sp.pgs_pos hb h
  obtain⟨k,hk⟩:∃k:Nat,Sp.pgs w=k:=⟨(Sp.pgs w).toNat,by omega⟩
  have hpl:Sp.place S.pg w=(match Sp.run (S.pg.map Pg.taken) k with |some p=>(((p*64:Nat):Int),0,Sp.putL S.pg p k)|none=>(0,3,S.pg)):=by
   unfold Sp.place;rw[if_pos h,hk,Int.toNat_natCast];rfl
  cases hr:Sp.run (S.pg.map Pg.taken) k with
  |none=>rw[hr]at hpl;exact .inl hpl
  |some i=>
   rw[hr]at hpl
   obtain⟨hi,hfree⟩:=run_free hr
   exact .inr (.inl ⟨i,k,h,hk,by omega,by omega,by omega,hi,hfree,hpl⟩)
 ·have hcc:=Sp.cls_cases w
  obtain⟨c,hc⟩:∃c:Nat,Sp.cls w=c:=⟨(Sp.cls w).toNat,by omega⟩
  have hc5:c<5:=by omega
  have hz:=Sp.sz_cases hc5
  have hblk:Sp.blk w=(Sp.sz c:Int):=by unfold Sp.blk;rw[if_pos (by omega),hc,Int.toNat_natCast,Sp.sz_get hc5]
  have h32:0<64/Sp.sz c:=by rcases hz with ⟨_,e⟩|⟨_,e⟩|⟨_,e⟩|⟨_,e⟩|⟨_,e⟩<;>rw[e]<;>decide
  have hpl:Sp.place S.pg w=(match Sp.openP S.pg c with
   |some p=>Sp.placeS S.pg p c (Sp.blocks S.pg p)
   |none=>(match Sp.run (S.pg.map Pg.taken) 1 with
    |some p=>Sp.placeS S.pg p c (List.replicate (64/Sp.sz c) false)
    |none=>(0,3,S.pg))):=by unfold Sp.place;rw[if_neg h,hc,Int.toNat_natCast];rfl
  cases ho:Sp.openP S.pg c with
  |some i=>
   rw[ho]at hpl
   obtain⟨l,hp,hcnt⟩:=Sp.openP_is ho
   obtain⟨k,g1,g2,g3⟩:=next_of_count hcnt
   have hbl:Sp.blocks S.pg i=l:=by unfold Sp.blocks;rw[hp]
   refine .inr (.inr ⟨c,i,k,l,hc,hc5,hblk,getElem?_lt hp,.inl hp,(hw.small _ _ _ hp).2,g2,g3,?_⟩)
   rw[hpl];dsimp only
   rw[hbl];unfold Sp.placeS;rw[g1,Int.toNat_natCast]
  |none=>
   rw[ho]at hpl
   cases hr:Sp.run (S.pg.map Pg.taken) 1 with
   |none=>rw[hr]at hpl;exact .inl hpl
   |some i=>
    rw[hr]at hpl
    obtain⟨hi,hfree⟩:=run_free hr
    obtain⟨k,g1,g2,g3⟩:=next_rep (n:=64/Sp.sz c) h32
    refine .inr (.inr ⟨c,i,k,List.replicate (64/Sp.sz c) false,hc,hc5,hblk,by omega,.inr ⟨hfree i (by omega) (by omega),rfl,hr⟩,by simp,g2,g3,?_⟩)
    rw[hpl];dsimp only
    unfold Sp.placeS;rw[g1,Int.toNat_natCast]
theorem sz_fit{c k n:Nat}(hc:c<5)(hk:k<n)(hn:n=64/Sp.sz c):k*Sp.sz c+Sp.sz c≤64∧2≤Sp.sz c∧Sp.sz c≤32:=by
 have hz:=Sp.sz_cases hc
 subst hn
 rcases hz with ⟨_,e⟩|⟨_,e⟩|⟨_,e⟩|⟨_,e⟩|⟨_,e⟩<;>rw[e]at hk⊢<;>omega
theorem Sp.place_fit{S:Spc}(hw:Wf S){w:Int}(hb:Sp.blk w≠0):Sp.place S.pg w=(0,3,S.pg)∨
  ((Sp.place S.pg w).2.1=0∧∃a n:Nat,(Sp.place S.pg w).1=a∧Sp.blk w=n∧2≤n∧n≤1024∧a+n≤S.ws.length):=by
 have hl:=hw.len
 rcases Sp.place_cases hw hb with h|⟨i,k,_,_,h1,h2,h3,h4,_,h⟩|⟨c,i,k,l,_,h1,h2,h3,_,h5,h6,_,h⟩
 ·exact .inl h
 ·rw[h];exact .inr ⟨rfl,i*64,k*64,rfl,h3,by omega,by omega,by omega⟩
 ·obtain⟨f1,f2,f3⟩:=sz_fit h1 h6 h5
  rw[h];exact .inr ⟨rfl,i*64+k*Sp.sz c,Sp.sz c,rfl,h2,f2,by omega,by omega⟩
theorem space_alloc(p:Nat)(S:Spc)(hw:Wf S)(w:Int):Gl.Spec ρ Tryz.prog 157 [.pointer (some ⟨p,0,none⟩),i64 w] [SpaceA p S] P2
  fun r M=>r=((Sp.alloc S w).1,(Sp.alloc S w).2.1,())∧M=[SpaceA p (Sp.alloc S w).2.2]:=by
 have hmost:=hw.most
 have hlen:=hw.len
 refine Spec.of (fun Q w' h=>F.space.Space.Alloc.calls (some ⟨p,0,none⟩) w h) fun R=> ?_
 unfold F.space.Space.Alloc
 try simp only[lca,lna]
 refine en_call (size_block w) tks ?_
 rintro x M ⟨rfl,rfl⟩
 try simp only[lca,lna]
 refine en_brf rfl (en_br (fun h=> ?_) (fun h=> ?_))
 ·replace h:Sp.blk w=0:=by simpa using h
  have e:Sp.alloc S w=(0,1,S):=by unfold Sp.alloc;rw[if_pos h]
  rw[e]
  exact en_rets (x:=((0:Int),(1:Int),())) rfl ⟨rfl,rfl⟩ tks ens
 ·replace h:¬Sp.blk w=0:=by simpa using h
  refine en_call (space_place p S hw w h) tks ?_
  rintro x M ⟨rfl,rfl⟩
  try simp only[lca,lna]
  rcases Sp.place_fit hw h with hp|⟨hp,a,n,ha,hn,n1,n2,n3⟩
  ·have e:Sp.alloc S w=(0,3,S):=by unfold Sp.alloc;rw[if_neg h,hp];rfl
   rw[e,hp]
   refine en_brt rfl ?_
   exact en_rets (x:=((0:Int),(3:Int),())) rfl ⟨rfl,rfl⟩ tks ens
  ·have e:Sp.alloc S w=((a:Int),0,⟨Sp.clr S.ws a n,(Sp.place S.pg w).2.2⟩):=by
    unfold Sp.alloc;rw[if_neg h,if_pos hp,ha,hn,Int.toNat_natCast,Int.toNat_natCast]
   rw[e,hp,ha]
   refine en_brf rfl (en_nn (SpaceA.op tk fun pa pp ms ml ls ll hS hL nS nL=> ?_))
   refine en_ld (k:= .ptr) (x:=some ⟨pa,0,none⟩) (by rw[fa_mk]) tk rfl ?_
   rw[hn]
   refine en_call (arena_fill pa S.ws (a:Int) (n:Int) (by omega) (by omega) (by omega) (by omega)) tks ?_
   rintro x M ⟨rfl,rfl⟩
   try simp only[lca,lna]
   rw[Int.toNat_natCast,Int.toNat_natCast]
   refine Tr.close tks (SpaceA.cl (p:=p) (pa:=pa) (pp:=pp) (ms:=ms) (ml:=ml) (S:=⟨Sp.clr S.ws a n,(Sp.place S.pg w).2.2⟩) hS hL) ?_
   exact en_rets (x:=((a:Int),(0:Int),())) rfl ⟨rfl,rfl⟩ tks ens
theorem clr_len{ws:List Int}{i n:Nat}(h:i+n≤ws.length):(Sp.clr ws i n).length=ws.length:=by simp[Sp.clr];omega
theorem set_get{pg:List Pg}{i j:Nat}{x:Pg}(h:i<pg.length):(pg.set i x)[j]? =if i=j then some x else pg[j]? :=by
 rw[List.getElem?_set]
 by_cases hij:i=j
 ·rw[if_pos hij,if_pos hij,if_pos (by omega)]
 ·rw[if_neg hij,if_neg hij]
theorem Wf.put_small{S:Spc}(hw:Wf S){i c:Nat}{l:List Bool}{ws:List Int}(hws:ws.length=S.ws.length)(hc:c<5)(hl:l.length=64/Sp.sz c)(hp:S.pg[i]? =some .free∨∃c' l',S.pg[i]? =some (.small c' l')):Wf ⟨ws,S.pg.set i (.small c l)⟩:=by
 have hi:i<S.pg.length:=by rcases hp with h|⟨_,_,h⟩<;>exact getElem?_lt h
 have nh:∀k,S.pg[i]? ≠some (.head k):=by intro k h;rcases hp with h'|⟨_,_,h'⟩<;>rw[h']at h<;>cases h
 have nt:S.pg[i]? ≠some .tail:=by intro h;rcases hp with h'|⟨_,_,h'⟩<;>rw[h']at h<;>cases h
 have nr:S.pg[i]? ≠some .res:=by intro h;rcases hp with h'|⟨_,_,h'⟩<;>rw[h']at h<;>cases h
 refine⟨by simp[hws,hw.len],by simp[hw.most],by simp[hw.pos],?_,?_,?_,?_⟩
 ·intro j
  dsimp only
  rw[set_get hi]
  split
  ·rename_i e;subst e
   simp only[reduceCtorEq,Option.some.injEq,false_iff]
   intro h;exact nr ((hw.res i).mpr h)
  ·exact hw.res j
 ·intro j c' l' h
  dsimp only at h
  rw[set_get hi]at h
  split at h
  ·simp at h;rw[←h.1,←h.2];exact⟨hc,hl⟩
  ·exact hw.small j c' l' h
 ·intro j k h
  dsimp only at h⊢
  rw[set_get hi]at h
  split at h
  ·cases h
  ·obtain⟨h1,h2,h3,h4⟩:=hw.head j k h
   refine⟨h1,h2,by simpa using h3,fun j' g1 g2=> ?_⟩
   rw[set_get hi]
   split
   ·rename_i e;subst e;exact absurd (h4 i g1 g2) nt
   ·exact h4 j' g1 g2
 ·intro j h
  dsimp only at h⊢
  rw[set_get hi]at h
  split at h
  ·cases h
  ·obtain⟨j',k,h1,h2⟩:=hw.tail j h
   refine⟨j',k,?_,h2⟩
   rw[set_get hi]
   split
   ·rename_i e;subst e;exact absurd h1 (nh k)
   ·exact h1
theorem Wf.put_large{S:Spc}(hw:Wf S){i k:Nat}{ws:List Int}(hws:ws.length=S.ws.length)(hk1:1≤k)(hk:k≤16)(hi:i+k≤S.pg.length)(hfree:∀j:Nat,i≤j→j<i+k→S.pg[j]? =some .free):Wf ⟨ws,Sp.putL S.pg i k⟩:=by
 refine⟨by simp[hws,hw.len,putL_len],by simp[hw.most,putL_len],by simp[hw.pos,putL_len],?_,?_,?_,?_⟩
 ·intro j
  dsimp only
  by_cases hj:i≤j∧j<i+k
  ·have hf:=hfree j hj.1 hj.2
   have hj0:j≠0:=fun e=>by have:=(hw.res j).mpr e;rw[hf]at this;cases this
   rw[putL_get,if_pos (by omega)]
   split
   ·simp[hj0]
   ·rw[if_pos (by omega)];simp[hj0]
  ·rw[putL_off hk1 hj];exact hw.res j
 ·intro j c l h
  dsimp only at h
  by_cases hj:i≤j∧j<i+k
  ·rw[putL_get,if_pos (by omega)]at h
   split at h
   ·cases h
   ·rw[if_pos (by omega)]at h;cases h
  ·rw[putL_off hk1 hj]at h;exact hw.small j c l h
 ·intro j k' h
  dsimp only at h⊢
  rw[putL_len]
  by_cases hj:i≤j∧j<i+k
  ·rw[putL_get,if_pos (by omega)]at h
   split at h
   ·rename_i e;subst e
    injection h with h;injection h with h;subst h
    refine⟨hk1,hk,hi,fun j' g1 g2=> ?_⟩
    rw[putL_get,if_pos (by omega),if_neg (by omega),if_pos ⟨g1,g2⟩]
   ·rw[if_pos (by omega)]at h;cases h
  ·rw[putL_off hk1 hj]at h
   obtain⟨h1,h2,h3,h4⟩:=hw.head j k' h
   refine⟨h1,h2,h3,fun j' g1 g2=> ?_⟩
   have:=h4 j' g1 g2
   by_cases hj':i≤j'∧j'<i+k
   ·rw[hfree j' hj'.1 hj'.2]at this;cases this
   ·rw[putL_off hk1 hj'];exact this
 ·intro j h
  dsimp only at h⊢
  by_cases hj:i≤j∧j<i+k
  ·rw[putL_get,if_pos (by omega)]at h
   split at h
   ·cases h
   ·exact⟨i,k,by rw[putL_get,if_pos (by omega),if_pos rfl],by omega,by omega⟩
  ·rw[putL_off hk1 hj]at h
   obtain⟨j',k',h1,h2⟩:=hw.tail j h
   refine⟨j',k',?_,h2⟩
   by_cases hj':i≤j'∧j'<i+k
   ·rw[hfree j' hj'.1 hj'.2]at h1;cases h1
   ·rw[putL_off hk1 hj'];exact h1
theorem Sp.alloc_wf{S:Spc}(hw:Wf S)(w:Int):Wf (Sp.alloc S w).2.2:=by
 unfold Sp.alloc
 split
 ·exact hw
 ·rename_i hb
  split
  ·rename_i h0
   rcases Sp.place_fit hw hb with hp|⟨_,a,n,ha,hn,n1,n2,n3⟩
   ·rw[hp]at h0;cases h0
   ·have hcl:(Sp.clr S.ws (Sp.place S.pg w).1.toNat (Sp.blk w).toNat).length=S.ws.length:=by
     rw[ha,hn,Int.toNat_natCast,Int.toNat_natCast];exact clr_len n3
    dsimp only
    rcases Sp.place_cases hw hb with h|⟨i,k,_,_,h1,h2,h3,h4,h5,h⟩|⟨c,i,k,l,_,h1,h2,h3,h4,h5,h6,_,h⟩
    ·rw[h]at h0;cases h0
    ·have e:(Sp.place S.pg w).2.2=Sp.putL S.pg i k:=by rw[h]
     rw[e];exact hw.put_large hcl h1 h2 h4 h5
    ·have e:(Sp.place S.pg w).2.2=S.pg.set i (.small c (l.set k true)):=by rw[h]
     rw[e]
     refine hw.put_small hcl h1 (by simpa using h5) ?_
     rcases h4 with h4|⟨h4,_⟩
     ·exact .inr ⟨c,l,h4⟩
     ·exact .inl h4
  ·exact hw
end Go.Proofs.YtfepdmpplahloaaGreat
namespace Go.Proofs.YtfepdmpplahloaaGreat
open Go Go.Gl
variable{ρ0 ρ:FR}{L L':List Asn}{Post:Value→List Asn→Prop}{T:Tree}
theorem Sp.find_at{S:Spc}(hw:Wf S){n s w:Nat}(h:Sp.find S n=some (s,w))(e:s=n):
  n<S.ws.length∧((∃c l k,S.pg[n/64]? =some (.small c l)∧c<5∧l.length=64/Sp.sz c∧k=n%64/Sp.sz c∧l.getD k false=true∧n=n/64*64+k*Sp.sz c∧w=Sp.sz c)∨
   ∃k,S.pg[n/64]? =some (.head k)∧n=n/64*64∧w=k*64):=by
 have hn:n<S.ws.length:=by
  rcases Nat.lt_or_ge n S.ws.length with c|c
  ·exact c
  ·rw[Sp.find_out (by omega)]at h;cases h
 refine⟨hn,?_⟩
 by_cases hsm:∃c l,S.pg[n/64]? =some (.small c l)
 ·obtain⟨c,l,hsm⟩:=hsm
  rw[Sp.find_small hn hsm]at h
  split at h
  ·rename_i hl
   injection h with h;injection h with h1 h2
   obtain⟨hc,hll⟩:=hw.small _ _ _ hsm
   exact .inl ⟨c,l,_,hsm,hc,hll,rfl,hl,by omega,h2.symm⟩
  ·cases h
 ·have hns:∀c l,S.pg[n/64]? ≠some (.small c l):=fun c l h=>hsm ⟨c,l,h⟩
  rw[Sp.find_other hn hns]at h
  cases ho:Sp.own S.pg (n/64)with
  |none=>rw[ho]at h;cases h
  |some x=>
   obtain⟨j,k⟩:=x
   rw[ho]at h
   injection h with h;injection h with h1 h2
   obtain⟨g1,g2,g3⟩:=Sp.own_is ho
   dsimp only at h1 h2
   have:j=n/64:=by omega
   subst this
   exact .inr ⟨k,g1,by omega,h2.symm⟩
theorem space_free(p:Nat)(S:Spc)(hw:Wf S)(a:Int):Gl.Spec ρ Tryz.prog 152 [.pointer (some ⟨p,0,none⟩),i64 a] [SpaceA p S] R1
  fun r M=>r=(Sp.freeS S a).1∧M=[SpaceA p (Sp.freeS S a).2]:=by
 have hmost:=hw.most
 have hlen:=hw.len
 refine Spec.of (fun Q w' h=>F.space.Space.Free.calls (some ⟨p,0,none⟩) a h) fun R=> ?_
 unfold F.space.Space.Free
 try simp only[lca,lna]
 refine en_call (space_find p S hw a) tks ?_
 rintro x M ⟨rfl,rfl⟩
 try simp only[lca,lna]
 cases hf:Sp.find S a with
 |none=>
  have e:Sp.freeS S a=(2,S):=by unfold Sp.freeS;rw[hf]
  rw[e]
  refine en_brt rfl ?_
  exact en_rets (x:=(2:Int)) rfl ⟨rfl,rfl⟩ tks ens
 |some x=>
  obtain⟨s,w⟩:=x
  refine en_brf rfl (en_br (fun h=> ?_) (fun h=> ?_))
  ·have h:¬(s:Int)=a:=by simpa[Sp.found]using h
   have e:Sp.freeS S a=(2,S):=by unfold Sp.freeS;rw[hf];dsimp only;rw[if_neg h]
   rw[e]
   exact en_rets (x:=(2:Int)) rfl ⟨rfl,rfl⟩ tks ens
  ·have h:(s:Int)=a:=by simpa[Sp.found]using h
   subst h
   obtain⟨hn,hcase⟩:=Sp.find_at hw hf rfl
   have hp:s/64<S.pg.length:=by omega
   refine en_need (by decide) (en_nn (SpaceA.op tk fun pa pp ms ml ls ll hS hL nS nL=> ?_))
   refine en_ld (k:= .map) (x:=some ms) (by rw[fa_mk]) tk rfl ?_
   rw[tdiv64,wrap64 (n:=((s/64:Nat):Int)) (by omega) (by omega)]
   refine en_lkp2 (kd:= .ptr) (g:=gS) (z0:=none) uMS uI zPg hgS tk ?_
   have hp0:1≤s/64:=by
    rcases Nat.eq_zero_or_pos (s/64)with h0|h0
    ·have:=(hw.res (s/64)).mpr h0
     rcases hcase with ⟨c,l,k,h1,_⟩|⟨k,h1,_⟩<;>rw[this]at h1<;>cases h1
    ·exact h0
   rcases hcase with ⟨c,l,k,h1,h2,h3,h4,h5,h6,h7⟩|⟨k,h1,h2,h3⟩
   ·obtain⟨q,hq⟩:=hS.get nS h1
    have e:Sp.freeS S s=(0,⟨S.ws,S.pg.set (s/64) (if(l.set k false).count true=0 then .free else .small c (l.set k false))⟩):=by
     unfold Sp.freeS;rw[hf];dsimp only;rw[if_pos rfl,Int.toNat_natCast,h1];dsimp only;rw[←h4]
    rw[e,hq]
    have hz:=Sp.sz_cases h2
    have hl32:(l.set k false).length≤32:=by rw[List.length_set,h3];rcases hz with ⟨_,e⟩|⟨_,e⟩|⟨_,e⟩|⟨_,e⟩|⟨_,e⟩<;>rw[e]<;>decide
    have hset:=hS.set nS (p:=s/64) (c:=c) (q:=q) (l:=l.set k false) hp
    obtain⟨l1,l2,hl12,has,hdel⟩:=aget_split hq
    rw[has]at hset
    subst hl12
    refine en_brf rfl (en_need (by decide) ?_)
    refine Tr.mid (P:=PgA) tk ?_
    refine en_call (block_words q l (Sp.sz c)) (Takes.cons .here .nil) ?_
    rintro x M ⟨rfl,rfl⟩
    try simp only[lca,lna]
    refine en_need (by omega) ?_
    rw[tmod64,tdivN,←h4]
    have hk64:k≤64:=by rw[h4];have:=Nat.div_le_self (s%64) (Sp.sz c);omega
    rw[wrap64 (n:=(k:Int)) (by omega) (by omega)]
    refine en_call (block_give q l (Sp.sz c) k h5) (Takes.cons .here .nil) ?_
    rintro x M ⟨rfl,rfl⟩
    try simp only[lca,lna]
    refine en_brf rfl ?_
    refine en_call (block_empty q (l.set k false) (Sp.sz c) hl32) (Takes.cons .here .nil) ?_
    rintro x M ⟨rfl,rfl⟩
    try simp only[lca,lna]
    refine en_br (fun h8=> ?_) (fun h8=> ?_)
    ·have h8:¬(l.set k false).count true=0:=by simpa using h8
     rw[if_neg h8]
     refine Tr.close (M:=[PageA q (l.set k false) (Sp.sz c),star ((l1++l2).map PgA)]) tks (pg_close ((s/64:Nat):Int) (q:=q) (c:=c) (l:=l.set k false)) ?_
     refine Tr.imp (A:=IM ms fS (l1++(((s/64:Nat):Int),q,c,l)::l2)) (A':=IM ms fS (l1++(((s/64:Nat):Int),q,c,l.set k false)::l2)) tk (IM.ghost (by simp[fS])) ?_
     have htk:S.pg.map Pg.taken=(S.pg.set (s/64) (.small c (l.set k false))).map Pg.taken:=by
      rw[taken_set hp]
      refine bits_ext (by rw[Sp.setR_len]) fun j hj=> ?_
      rw[Sp.setR_get hj]
      split
      ·have:j=s/64:=by omega
       subst this
       rw[taken_getD,getD_of h1];rfl
      ·rfl
     rw[htk]
     have hL2:Larges (S.pg.set (s/64) (.small c (l.set k false))) ll:=hL.same (heads_set (fun k h=>by rw[h1]at h;cases h) (fun k h=>by cases h))
     refine Tr.close tks (SpaceA.cl (p:=p) (pa:=pa) (pp:=pp) (ms:=ms) (ml:=ml) (S:=⟨S.ws,S.pg.set (s/64) (.small c (l.set k false))⟩) hset hL2) ?_
     exact en_rets (x:=(0:Int)) rfl ⟨rfl,rfl⟩ tks ens
    ·have h8:(l.set k false).count true=0:=by simpa using h8
     rw[if_pos h8]
     refine en_nn ?_
     refine en_ld (k:= .map) (x:=some ms) (by rw[fa_mk]) tk rfl ?_
     refine en_del (l:=l1++(((s/64:Nat):Int),q,c,l)::l2) rfl uMS uI tk ?_
     refine en_nn ?_
     refine en_ld (k:= .ptr) (x:=some ⟨pp,0,none⟩) (by rw[fa_mk]) tk rfl ?_
     have hgive:=pages_give (ρ:=ρ) pp (S.pg.map Pg.taken) (s/64) 1 hp0 (by omega) (by rw[List.length_map];omega) (by simpa using hmost) (fun j g1 g2=>by
      have:j=s/64:=by omega
      subst this
      rw[taken_getD,getD_of h1];rfl)
     refine en_call hgive tks ?_
     rintro x M ⟨rfl,rfl⟩
     try simp only[lca,lna]
     have hS2:Smalls (S.pg.set (s/64) .free) (adel ((s/64:Nat):Int) (l1++(((s/64:Nat):Int),q,c,l)::l2)):=hS.del nS (fun c l h=>by cases h)
     have hL2:Larges (S.pg.set (s/64) .free) ll:=hL.same (heads_set (fun k h=>by rw[h1]at h;cases h) (fun k h=>by cases h))
     rw[hdel]at hS2⊢
     rw[show Sp.setR (S.pg.map Pg.taken) false (s/64) 1=(S.pg.set (s/64) .free).map Pg.taken from(taken_set (x:= .free) hp).symm]
     refine Tr.close tks (SpaceA.cl (p:=p) (pa:=pa) (pp:=pp) (ms:=ms) (ml:=ml) (S:=⟨S.ws,S.pg.set (s/64) .free⟩) hS2 hL2) ?_
     exact en_rets (x:=(0:Int)) rfl ⟨rfl,rfl⟩ tks ens
   ·have hns:∀c l,S.pg[s/64]? ≠some (.small c l):=fun c l h=>by rw[h1]at h;cases h
    have e:Sp.freeS S s=(0,⟨S.ws,Sp.freeL S.pg (s/64) k⟩):=by
     unfold Sp.freeS;rw[hf];dsimp only;rw[if_pos rfl,Int.toNat_natCast,h1]
    obtain⟨k1,k2,k3,k4⟩:=hw.head _ _ h1
    rw[e,hS.none hns]
    refine en_brt rfl (en_nn ?_)
    refine en_ld (k:= .map) (x:=some ml) (by rw[fa_mk]) tk rfl ?_
    refine en_lkp1 (kd:= .int .i64) (g:=gL) (z0:=(0:Int)) uML uI zI hgL tk ?_
    rw[hL.get nL h1]
    refine en_nn ?_
    refine en_ld (k:= .map) (x:=some ml) (by rw[fa_mk]) tk rfl ?_
    refine en_del (l:=ll) rfl uML uI tk ?_
    refine en_nn ?_
    refine en_ld (k:= .ptr) (x:=some ⟨pp,0,none⟩) (by rw[fa_mk]) tk rfl ?_
    have htail:∀j:Nat,s/64≤j→j<s/64+k→S.pg[j]? =some (.head k)∧j=s/64∨S.pg[j]? =some .tail:=fun j g1 g2=>by
     rcases Nat.lt_or_ge (s/64) j with g|g
     ·exact .inr (k4 j g g2)
     ·have:j=s/64:=by omega
      subst this;exact .inl ⟨h1,rfl⟩
    have hgive:=pages_give (ρ:=ρ) pp (S.pg.map Pg.taken) (s/64) k hp0 (by omega) (by simpa using k3) (by simpa using hmost) (fun j g1 g2=>by
     rcases htail j g1 g2 with ⟨h,_⟩|h<;>rw[taken_getD,getD_of h]<;>rfl)
    refine en_call hgive tks ?_
    rintro x M ⟨rfl,rfl⟩
    try simp only[lca,lna]
    have hS2:Smalls (Sp.freeL S.pg (s/64) k) ls:=hS.same (fun j c l=>by
     by_cases hj:s/64≤j∧j<s/64+k
     ·rw[freeL_get,if_pos (by omega),if_pos hj]
      rcases htail j hj.1 hj.2 with ⟨h,_⟩|h<;>rw[h]<;>constructor<;>intro h<;>cases h
     ·rw[freeL_off hj])
    have hL2:Larges (Sp.freeL S.pg (s/64) k) (adel ((s/64:Nat):Int) ll):=hL.del nL (fun k' h=>by rw[freeL_get,if_pos hp,if_pos ⟨by omega,by omega⟩]at h;cases h) (fun j k' hj=>by
     by_cases hj2:s/64≤j∧j<s/64+k
     ·rw[freeL_get,if_pos (by omega),if_pos hj2]
      rcases htail j hj2.1 hj2.2 with ⟨_,h⟩|h
      ·exact absurd h hj
      ·rw[h];constructor<;>intro h<;>cases h
     ·rw[freeL_off hj2])
    rw[←taken_freeL]
    refine Tr.close tks (SpaceA.cl (p:=p) (pa:=pa) (pp:=pp) (ms:=ms) (ml:=ml) (S:=⟨S.ws,Sp.freeL S.pg (s/64) k⟩) hS2 hL2) ?_
    exact en_rets (x:=(0:Int)) rfl ⟨rfl,rfl⟩ tks ens
theorem Wf.set_free{S:Spc}(hw:Wf S){i c:Nat}{l:List Bool}(hp:S.pg[i]? =some (.small c l)):Wf ⟨S.ws,S.pg.set i .free⟩:=by
 have hi:=getElem?_lt hp
 refine⟨by simp[hw.len],by simp[hw.most],by simp[hw.pos],?_,?_,?_,?_⟩
 ·intro j
  dsimp only
  rw[set_get hi]
  split
  ·rename_i e;subst e
   simp only[reduceCtorEq,Option.some.injEq,false_iff]
   intro h;have:=(hw.res i).mpr h;rw[hp]at this;cases this
  ·exact hw.res j
 ·intro j c' l' h
  dsimp only at h
  rw[set_get hi]at h
  split at h
  ·cases h
  ·exact hw.small j c' l' h
 ·intro j k h
  dsimp only at h⊢
  rw[set_get hi]at h
  split at h
  ·cases h
  ·obtain⟨h1,h2,h3,h4⟩:=hw.head j k h
   refine⟨h1,h2,by simpa using h3,fun j' g1 g2=> ?_⟩
   rw[set_get hi]
   split
   ·rename_i e;subst e;have:=h4 i g1 g2;rw[hp]at this;cases this
   ·exact h4 j' g1 g2
 ·intro j h
  dsimp only at h⊢
  rw[set_get hi]at h
  split at h
  ·cases h
  ·obtain⟨j',k,h1,h2⟩:=hw.tail j h
   refine⟨j',k,?_,h2⟩
   rw[set_get hi]
   split
   ·rename_i e;subst e;rw[hp]at h1;cases h1
   ·exact h1
theorem Wf.free_large{S:Spc}(hw:Wf S){i k:Nat}(hp:S.pg[i]? =some (.head k)):Wf ⟨S.ws,Sp.freeL S.pg i k⟩:=by
 obtain⟨k1,k2,k3,k4⟩:=hw.head _ _ hp
 have hr:∀j:Nat,i≤j→j<i+k→S.pg[j]? ≠some .res:=fun j g1 g2 h=>by
  rcases Nat.lt_or_ge i j with g|g
  ·rw[k4 j g g2]at h;cases h
  ·have:j=i:=by omega
   subst this;rw[hp]at h;cases h
 refine⟨by simp[hw.len,freeL_len],by simp[hw.most,freeL_len],by simp[hw.pos,freeL_len],?_,?_,?_,?_⟩
 ·intro j
  dsimp only
  by_cases hj:i≤j∧j<i+k
  ·rw[freeL_get,if_pos (by omega),if_pos hj]
   simp only[reduceCtorEq,Option.some.injEq,false_iff]
   intro h;exact hr j hj.1 hj.2 ((hw.res j).mpr h)
  ·rw[freeL_off hj];exact hw.res j
 ·intro j c l h
  dsimp only at h
  by_cases hj:i≤j∧j<i+k
  ·rw[freeL_get,if_pos (by omega),if_pos hj]at h;cases h
  ·rw[freeL_off hj]at h;exact hw.small j c l h
 ·intro j k' h
  dsimp only at h⊢
  rw[freeL_len]
  by_cases hj:i≤j∧j<i+k
  ·rw[freeL_get,if_pos (by omega),if_pos hj]at h;cases h
  ·rw[freeL_off hj]at h
   obtain⟨h1,h2,h3,h4⟩:=hw.head j k' h
   refine⟨h1,h2,h3,fun j' g1 g2=> ?_⟩
   by_cases hj':i≤j'∧j'<i+k
   ·have:=hw.uniq h hp ⟨by omega,g2⟩ hj'
    omega
   ·rw[freeL_off hj'];exact h4 j' g1 g2
 ·intro j h
  dsimp only at h⊢
  by_cases hj:i≤j∧j<i+k
  ·rw[freeL_get,if_pos (by omega),if_pos hj]at h;cases h
  ·rw[freeL_off hj]at h
   obtain⟨j',k',h1,h2⟩:=hw.tail j h
   refine⟨j',k',?_,h2⟩
   by_cases hj':i≤j'∧j'<i+k
   ·exfalso
    rcases Nat.lt_or_ge i j' with g|g
    ·rw[k4 j' g hj'.2]at h1;cases h1
    ·have:j'=i:=by omega
     subst this
     rw[hp]at h1;injection h1 with h1;injection h1 with h1
     omega
   ·rw[freeL_off hj'];exact h1
theorem Sp.free_wf{S:Spc}(hw:Wf S)(a:Int):Wf (Sp.freeS S a).2:=by
 unfold Sp.freeS
 split
 ·rename_i s w hf
  split
  ·rename_i e
   subst e
   obtain⟨hn,hcase⟩:=Sp.find_at hw hf rfl
   rcases hcase with ⟨c,l,k,h1,h2,h3,h4,h5,h6,h7⟩|⟨k,h1,h2,h3⟩
   ·rw[Int.toNat_natCast,h1]
    dsimp only
    rw[←h4]
    split
    ·exact hw.set_free h1
    ·exact hw.put_small rfl h2 (by simpa using h3) (.inr ⟨c,l,h1⟩)
   ·rw[Int.toNat_natCast,h1]
    exact hw.free_large h1
  ·exact hw
 ·exact hw
end Go.Proofs.YtfepdmpplahloaaGreat
namespace Go.Proofs.YtfepdmpplahloaaGreat
open Go Go.Gl
variable{ρ0 ρ:FR}{L L':List Asn}{Post:Value→List Asn→Prop}{T:Tree}
theorem parts_perm{α β:Type}{a b:α→Bool}{g:α→List β}(hab:∀x,a x=true→b x=true→False)(h0:∀x,a x=false→b x=false→g x=[]):∀l:List α,((l.filter a).flatMap g++(l.filter b).flatMap g).Perm (l.flatMap g)
 |[]=> .refl _
 |x::l=>by
  have ih:=parts_perm hab h0 l
  cases ha:a x with
  |true=>
   have hb:b x=false:=by cases hb:b x with
    |false=>rfl
    |true=>exact(hab x ha hb).elim
   rw[List.filter_cons_of_pos ha,List.filter_cons_of_neg (by simp[hb]),List.flatMap_cons,List.flatMap_cons,List.append_assoc]
   exact ih.append_left _
  |false=>
   rw[List.filter_cons_of_neg (by simp[ha])]
   cases hb:b x with
   |true=>
    rw[List.filter_cons_of_pos hb,List.flatMap_cons,List.flatMap_cons]
    have:((l.filter a).flatMap g++(g x++(l.filter b).flatMap g)).Perm (g x++((l.filter a).flatMap g++(l.filter b).flatMap g)):=by
     rw[←List.append_assoc,←List.append_assoc]
     exact List.perm_append_comm.append_right _
    exact this.trans (ih.append_left _)
   |false=>
    rw[List.filter_cons_of_neg (by simp[hb]),List.flatMap_cons,h0 x ha hb]
    exact ih
def Pg.isH:Pg→Bool| .head _=>true|_=>false
def Sp.headIx(pg:List Pg):List Nat:=(List.range pg.length).filter fun p=>(pg.getD p .free).isH
theorem Sp.mem_headIx{pg:List Pg}{p:Nat}:p∈Sp.headIx pg↔∃k,pg[p]? =some (.head k):=by
 unfold Sp.headIx
 rw[List.mem_filter,List.mem_range]
 constructor
 ·rintro⟨h1,h2⟩
  rw[List.getD_eq_getElem?_getD,List.getElem?_eq_getElem h1]at h2
  rw[List.getElem?_eq_getElem h1]
  revert h2
  generalize pg[p]=x
  intro h2
  cases x with
  |head k=>exact⟨k,rfl⟩
  |_=>cases h2
 ·rintro⟨k,h⟩
  exact⟨getElem?_lt h,by rw[List.getD_eq_getElem?_getD,h];rfl⟩
def Sp.gE(pg:List Pg)(p:Nat):List Int:=Sp.at1 p (pg.getD p .free)
def Sp.atE(x:Int×Ent):List Int:=Sp.at1 x.1.toNat (.small x.2.2.1 x.2.2.2)
theorem nodup_of_map{α β:Type}{f:α→β}{l:List α}(h:(l.map f).Nodup):l.Nodup:=(List.pairwise_map.mp h).imp fun hab e=>hab (by rw[e])
theorem smalls_each{pg:List Pg}{ls:List (Int×Ent)}(hS:Smalls pg ls)(nS:(ls.map (·.1)).Nodup):(ls.flatMap Sp.atE).Perm ((Sp.smallIx pg).flatMap (Sp.gE pg)):=by
 have h1:(ls.map fun x=>(x.1,x.2.2)).Perm ((Sp.smallIx pg).map fun p:Nat=>((p:Int),match pg.getD p .free with |Pg.small c l=>(c,l)|_=>(0,[]))):=by
  rw[List.perm_ext_iff_of_nodup]
  ·rintro⟨i,c,l⟩
   rw[List.mem_map,List.mem_map]
   constructor
   ·rintro⟨⟨i',q,c',l'⟩,h1,h2⟩
    injection h2 with e1 e2
    dsimp only at e1 e2
    injection e2 with e2 e3
    subst e1;subst e2;subst e3
    obtain⟨h0,h2⟩:=(hS i' c' l').mp ⟨q,h1⟩
    refine⟨i'.toNat,Sp.mem_smallIx.mpr ⟨c',l',h2⟩,?_⟩
    rw[getD_of h2]
    congr 1
    omega
   ·rintro⟨p,hp,e⟩
    obtain⟨c',l',h⟩:=Sp.mem_smallIx.mp hp
    rw[getD_of h]at e
    injection e with e1 e2
    injection e2 with e2 e3
    subst e1;subst e2;subst e3
    obtain⟨q,hq⟩:=(hS p c' l').mpr ⟨by omega,by simpa using h⟩
    exact⟨_,hq,rfl⟩
  ·refine nodup_of_map (f:=(·.1)) ?_
   rw[List.map_map];exact nS
  ·refine nodup_of_map (f:=(·.1)) ?_
   rw[List.map_map]
   exact List.Pairwise.map (R:=(·<·)) (S:=(·≠·)) _ (fun a b h=>by simp only[Function.comp];omega) (Sp.smallIx_sorted pg)
 have e1:ls.flatMap Sp.atE=(ls.map fun x=>(x.1,x.2.2)).flatMap fun y=>Sp.at1 y.1.toNat (.small y.2.1 y.2.2):=by rw[List.flatMap_map];rfl
 rw[e1]
 refine(h1.flatMap_right _).trans ?_
 rw[List.flatMap_map]
 have:∀l:List Nat,(∀p∈l,p∈Sp.smallIx pg)→(l.flatMap fun p:Nat=>Sp.at1 (((p:Nat):Int)).toNat (.small (match pg.getD p .free with |Pg.small c l=>(c,l)|_=>(0,[])).1 (match pg.getD p .free with |Pg.small c l=>(c,l)|_=>(0,[])).2))=l.flatMap (Sp.gE pg):=by
  intro l
  induction l with
  |nil=>intro _;rfl
  |cons p l ih=>
   intro h
   rw[List.flatMap_cons,List.flatMap_cons,ih fun q hq=>h q (List.mem_cons_of_mem _ hq)]
   obtain⟨c',l',hp⟩:=Sp.mem_smallIx.mp (h p List.mem_cons_self)
   unfold Sp.gE
   rw[getD_of hp,Int.toNat_natCast]
 rw[this _ fun p hp=>hp]
theorem larges_each{pg:List Pg}{ll:List (Int×Nat)}(hL:Larges pg ll)(nL:(ll.map (·.1)).Nodup):(ll.map fun x=>x.1*64).Perm ((Sp.headIx pg).flatMap (Sp.gE pg)):=by
 have h1:(ll.map (·.1)).Perm ((Sp.headIx pg).map fun p:Nat=>(p:Int)):=by
  rw[List.perm_ext_iff_of_nodup nL]
  ·intro i
   rw[List.mem_map,List.mem_map]
   constructor
   ·rintro⟨⟨i',k⟩,h1,rfl⟩
    obtain⟨h0,h2⟩:=(hL i' k).mp h1
    exact⟨i'.toNat,Sp.mem_headIx.mpr ⟨k,h2⟩,by dsimp only;omega⟩
   ·rintro⟨p,hp,rfl⟩
    obtain⟨k,h⟩:=Sp.mem_headIx.mp hp
    exact⟨(p,k),(hL p k).mpr ⟨by omega,by simpa using h⟩,rfl⟩
  ·exact List.Pairwise.map (R:=(·<·)) (S:=(·≠·)) _ (fun a b h=>by omega) (List.Pairwise.filter _ List.pairwise_lt_range)
 have e1:(ll.map fun x=>x.1*64)=(ll.map (·.1)).map (·*64):=by simp
 rw[e1]
 refine(h1.map _).trans ?_
 rw[List.map_map]
 have:∀l:List Nat,(∀p∈l,p∈Sp.headIx pg)→l.map ((fun x:Int=>x*64)∘fun p:Nat=>(p:Int))=l.flatMap (Sp.gE pg):=by
  intro l
  induction l with
  |nil=>intro _;rfl
  |cons p l ih=>
   intro h
   rw[List.map_cons,List.flatMap_cons,ih fun q hq=>h q (List.mem_cons_of_mem _ hq)]
   obtain⟨k,hp⟩:=Sp.mem_headIx.mp (h p List.mem_cons_self)
   unfold Sp.gE
   rw[getD_of hp]
   simp[Sp.at1]
 rw[this _ fun p hp=>hp]
theorem each_perm{S:Spc}{ls:List (Int×Ent)}{ll:List (Int×Nat)}(hS:Smalls S.pg ls)(nS:(ls.map (·.1)).Nodup)(hL:Larges S.pg ll)(nL:(ll.map (·.1)).Nodup):(ls.flatMap Sp.atE++(ll.map fun x:Int×Nat=>x.1*64)).Perm (Sp.each S):=by
 refine((smalls_each hS nS).append (larges_each hL nL)).trans ?_
 refine parts_perm (fun p h1 h2=> ?_) (fun p h1 h2=> ?_) _
 ·revert h1 h2
  cases S.pg.getD p .free<;>simp[Pg.isS,Pg.isH]
 ·revert h1 h2
  unfold Sp.gE
  cases S.pg.getD p .free<;>simp[Pg.isS,Pg.isH,Sp.at1]
theorem Sp.mem_at1{S:Spc}(hw:Wf S){p:Nat}{a:Int}(h:a∈Sp.gE S.pg p):∃n:Nat,a=n∧n/64=p∧n<S.ws.length∧∃w,Sp.find S n=some (n,w)∧2≤w∧w≤1024∧n+w≤S.ws.length:=by
 have hlen:=hw.len
 unfold Sp.gE at h
 rcases Nat.lt_or_ge p S.pg.length with hp|hp
 rotate_left
 ·rw[List.getD_eq_getElem?_getD,List.getElem?_eq_none hp]at h;cases h
 have hpg:=of_getD hp
 revert h hpg
 generalize S.pg.getD p .free=x
 intro h hpg
 cases x with
 |small c l=>
  obtain⟨hc,hl⟩:=hw.small _ _ _ hpg
  simp only[Sp.at1,List.mem_filterMap,List.mem_range]at h
  obtain⟨k,hk,h⟩:=h
  split at h
  ·rename_i hb
   injection h with h
   obtain⟨f1,f2,f3⟩:=sz_fit hc hk hl
   have e1:(p*64+k*Sp.sz c)/64=p:=by omega
   have e2:(p*64+k*Sp.sz c)%64=k*Sp.sz c:=by omega
   refine⟨p*64+k*Sp.sz c,h.symm,e1,by omega,Sp.sz c,?_,f2,by omega,by omega⟩
   rw[Sp.find_small (by omega) (by rw[e1];exact hpg),e1,e2,Nat.mul_div_cancel _ (by omega),if_pos hb]
  ·cases h
 |head k=>
  obtain⟨k1,k2,k3,k4⟩:=hw.head _ _ hpg
  simp only[Sp.at1,List.mem_singleton]at h
  have e1:p*64/64=p:=by omega
  refine⟨p*64,h,e1,by omega,k*64,?_,by omega,by omega,by omega⟩
  rw[Sp.find_other (by omega) (by rw[e1];intro c l hc;rw[hpg]at hc;cases hc),e1,Sp.own_of hw hpg ⟨by omega,by omega⟩]
  rfl
 |_=>cases h
theorem Sp.mem_each{S:Spc}{a:Int}:a∈Sp.each S↔∃p,p<S.pg.length∧a∈Sp.gE S.pg p:=by
 unfold Sp.each
 rw[List.mem_flatMap]
 constructor
 ·rintro⟨p,hp,h⟩;exact⟨p,by simpa using hp,h⟩
 ·rintro⟨p,hp,h⟩;exact⟨p,by simpa using hp,h⟩
theorem Sp.each_find{S:Spc}(hw:Wf S){a:Int}(h:a∈Sp.each S):∃n:Nat,a=n∧n<S.ws.length∧∃w,Sp.find S n=some (n,w)∧2≤w∧w≤1024∧n+w≤S.ws.length:=by
 obtain⟨p,_,hp⟩:=Sp.mem_each.mp h
 obtain⟨n,h1,_,h2,h3⟩:=Sp.mem_at1 hw hp
 exact⟨n,h1,h2,h3⟩
theorem Sp.each_sorted{S:Spc}(hw:Wf S):(Sp.each S).Pairwise (·<·):=by
 unfold Sp.each
 rw[List.pairwise_flatMap]
 constructor
 ·intro p hp
  unfold Sp.at1
  split
  ·rename_i c l hpg
   have hpl:p<S.pg.length:=by simpa using hp
   have:=of_getD hpl
   rw[hpg]at this
   have hc:=(hw.small _ _ _ this).1
   have hz:=Sp.sz_cases hc
   refine List.Pairwise.filterMap (R:=(·<·)) _ ?_ List.pairwise_lt_range
   intro a b hab x hx y hy
   split at hx
   ·split at hy
    ·simp at hx hy
     have:=Nat.mul_lt_mul_of_pos_right hab (show 0<Sp.sz c by omega)
     subst hx;subst hy
     omega
    ·cases hy
   ·cases hx
  ·exact List.pairwise_singleton _ _
  ·exact .nil
 ·refine List.pairwise_lt_range.imp fun{p q} hpq x hx y hy=> ?_
  obtain⟨n,h1,h2,_⟩:=Sp.mem_at1 hw hx
  obtain⟨m,g1,g2,_⟩:=Sp.mem_at1 hw hy
  omega
theorem Sp.at1_len{S:Spc}(hw:Wf S)(p:Nat):(Sp.gE S.pg p).length≤32:=by
 unfold Sp.gE
 rcases Nat.lt_or_ge p S.pg.length with hp|hp
 ·have hpg:=of_getD hp
  revert hpg
  generalize S.pg.getD p .free=x
  intro hpg
  cases x with
  |small c l=>
   obtain⟨hc,hl⟩:=hw.small _ _ _ hpg
   unfold Sp.at1
   refine Nat.le_trans (List.length_filterMap_le _ _) ?_
   rw[List.length_range,hl]
   have hz:=Sp.sz_cases hc
   rcases hz with ⟨_,e⟩|⟨_,e⟩|⟨_,e⟩|⟨_,e⟩|⟨_,e⟩<;>rw[e]<;>decide
  |head k=>simp[Sp.at1]
  |_=>simp[Sp.at1]
 ·rw[List.getD_eq_getElem?_getD,List.getElem?_eq_none hp];simp[Sp.at1]
theorem flat_len_le{α β:Type}{g:α→List β}{m:Nat}(h:∀x,(g x).length≤m):∀l:List α,(l.flatMap g).length≤l.length*m
 |[]=>by simp
 |x::l=>by
  rw[List.flatMap_cons,List.length_append,List.length_cons,Nat.add_mul]
  have:=flat_len_le h l
  have:=h x
  omega
theorem Sp.each_len{S:Spc}(hw:Wf S):(Sp.each S).length≤8192:=by
 have:=flat_len_le (Sp.at1_len hw) (List.range S.pg.length)
 have h2:=hw.most
 rw[List.length_range]at this
 have e:Sp.each S=(List.range S.pg.length).flatMap (Sp.gE S.pg):=rfl
 rw[e]
 omega
end Go.Proofs.YtfepdmpplahloaaGreat
namespace Go.Proofs.YtfepdmpplahloaaGreat
open Go Go.Gl
variable{ρ0 ρ:FR}{L L':List Asn}{Post:Value→List Asn→Prop}{T:Tree}
def Sp.atTo(p c:Nat)(l:List Bool)(q:Nat):List Int:=(List.range q).filterMap fun i=>if l.getD i false then some ((p*64+i*Sp.sz c:Nat):Int)else none
theorem Sp.atTo_all(p c:Nat)(l:List Bool):Sp.atTo p c l l.length=Sp.at1 p (.small c l):=rfl
theorem Sp.atTo_skip{p c q k:Nat}{l:List Bool}(h:∀j,q≤j→j<k→l.getD j false≠true)(hqk:q≤k):Sp.atTo p c l k=Sp.atTo p c l q:=by
 obtain⟨d,rfl⟩:∃d,k=q+d:=⟨k-q,by omega⟩
 clear hqk
 induction d with
 |zero=>rfl
 |succ d ih=>
  have hf:l.getD (q+d) false=false:=by
   have:=h (q+d) (by omega) (by omega)
   cases hh:l.getD (q+d) false with
   |false=>rfl
   |true=>exact absurd hh this
  unfold Sp.atTo at ih⊢
  rw[show q+(d+1)=q+d+1 by omega,List.range_succ,List.filterMap_append,ih fun j h1 h2=>h j h1 (by omega)]
  simp only[List.filterMap_cons,hf,List.filterMap_nil]
  simp
theorem Sp.atTo_one{p c k:Nat}{l:List Bool}(h:l.getD k false=true):Sp.atTo p c l (k+1)=Sp.atTo p c l k++[((p*64+k*Sp.sz c:Nat):Int)]:=by
 unfold Sp.atTo
 rw[List.range_succ,List.filterMap_append]
 simp only[List.filterMap_cons,h,List.filterMap_nil,if_true]
theorem Sp.atTo_len(p c:Nat)(l:List Bool)(q:Nat):(Sp.atTo p c l q).length≤q:=by
 unfold Sp.atTo
 exact Nat.le_trans (List.length_filterMap_le _ _) (by simp)
theorem space_each(p:Nat)(S:Spc)(hw:Wf S):Gl.Spec ρ Tryz.prog 60 [.pointer (some ⟨p,0,none⟩)] [SpaceA p S] RS
  fun r M=>r.n=(Sp.each S).length∧M=[SLc r 1 ((Sp.each S).map i64),SpaceA p S]:=by
 have hmost:=hw.most
 have hel:=Sp.each_len hw
 refine Spec.of (fun Q w' h=>F.space.Space.Each.calls (some ⟨p,0,none⟩) h) fun R=> ?_
 unfold F.space.Space.Each
 try simp only[lca,lna]
 refine en_brf rfl (en_nn (SpaceA.op tk fun pa pp ms ml ls ll hS hL nS nL=> ?_))
 have hperm:=each_perm hS nS hL nL
 have hpl:=hperm.length_eq
 rw[List.length_append,List.length_map]at hpl
 have hent:∀i q c l,(i,q,c,l)∈ls→0≤i∧i<256∧c<5∧l.length=64/Sp.sz c∧l.length≤32:=fun i q c l h=>by
  obtain⟨h0,h1⟩:=(hS i c l).mp ⟨q,h⟩
  obtain⟨h2,h3⟩:=hw.small _ _ _ h1
  have h4:=getElem?_lt h1
  have hz:=Sp.sz_cases h2
  refine⟨h0,by omega,h2,h3,?_⟩
  rw[h3];rcases hz with ⟨_,e⟩|⟨_,e⟩|⟨_,e⟩|⟨_,e⟩|⟨_,e⟩<;>rw[e]<;>decide
 refine en_ld (k:= .map) (x:=some ms) (by rw[fa_mk]) tk rfl ?_
 refine en_rng uMS tk fun r=> ?_
 refine Tr.nilSL 1 ?_
 refine Tr.take (A:=star (ls.map PgA)) tk ?_
 refine Tr.take (A:=SLc ⟨none,0,0⟩ 1 []) tk ?_
 refine en_lp (fun m u M=>(fun s:Slc=>∃rem cur xs,m=rem.length∧M=SLc s 1 (xs.map i64)::star (ls.map PgA)::MI ms r fS ls rem cur::blk p [.pointer (some ⟨pa,0,none⟩),.pointer (some ⟨pp,0,none⟩),.map (some ms),.map (some ml)]::ArenaA pa S.ws::PagesA pp (S.pg.map Pg.taken)::IM ml fL ll::R∧
   s.n=xs.length∧(∀x∈rem,x∈ls)∧(xs++rem.flatMap Sp.atE).Perm (ls.flatMap Sp.atE)) u.1) ls.length ?_ ?_
 ·exact⟨ls,none,[],rfl,rfl,rfl,fun x hx=>hx,.refl _⟩
 ·rintro m ⟨(s:Slc),⟨⟩⟩ M ⟨rem,cur,xs,rfl,rfl,hn,hsub,hpm⟩ X hX
  have hpm':=hpm.length_eq
  rw[List.length_append]at hpm'
  dsimp only at*
  refine en_nxt (kv:= .ptr) (g:=gS) hgS tk (fun h0=> ?_) (fun k v r1 r2 hr=> ?_)
  ·--the larger ones
   subst h0
   refine MI.over tk (en_nn ?_)
   refine en_ld (k:= .map) (x:=some ml) (by rw[fa_mk]) tk rfl ?_
   refine en_rng uML tk fun r2=> ?_
   rw[List.flatMap_nil,List.append_nil]at hpm
   refine Tr.take (A:=SLc s 1 (xs.map i64)) tk ?_
   refine en_lp (fun m u M=>(fun s:Slc=>∃rem cur ys,m=rem.length∧M=SLc s 1 (ys.map i64)::MI ml r2 fL ll rem cur::IM ms fS ls::star (ls.map PgA)::blk p [.pointer (some ⟨pa,0,none⟩),.pointer (some ⟨pp,0,none⟩),.map (some ms),.map (some ml)]::ArenaA pa S.ws::PagesA pp (S.pg.map Pg.taken)::R∧
     s.n=ys.length∧(∀x∈rem,x∈ll)∧(ys++rem.map fun x:Int×Nat=>x.1*64).Perm (xs++ll.map fun x:Int×Nat=>x.1*64)) u.1) ll.length ?_ ?_
   ·exact⟨ll,none,xs,rfl,rfl,hn,fun x hx=>hx,.refl _⟩
   ·rintro m ⟨(s:Slc),⟨⟩⟩ M ⟨rem,cur,ys,rfl,rfl,hn2,hsub2,hpm2⟩ X hX
    have hpm2':=hpm2.length_eq
    rw[List.length_append,List.length_append,List.length_map,List.length_map]at hpm2'
    dsimp only at*
    refine en_nxt (kv:= .int .i64) (g:=gL) hgL tk (fun h0=> ?_) (fun k v r3 r4 hr=> ?_)
    ·subst h0
     rw[List.map_nil,List.append_nil]at hpm2
     have hall:ys.Perm (Sp.each S):=hpm2.trans ((hpm.append_right _).trans hperm)
     have hyl:=hall.length_eq
     refine MI.over tk ?_
     refine en_call (sort_ints s ys (by omega)) tks ?_
     rintro x M rfl
     try simp only[lca,lna]
     have hso:Sp.sort ys=Sp.each S:=by
      rw[Sp.sort_perm hall]
      exact Sp.sort_id ((Sp.each_sorted hw).imp fun h=>by omega)
     rw[hso]
     refine Tr.close (A:=SpaceA p S) (M:=[blk p [.pointer (some ⟨pa,0,none⟩),.pointer (some ⟨pp,0,none⟩),.map (some ms),.map (some ml)],ArenaA pa S.ws,PagesA pp (S.pg.map Pg.taken),IM ms fS ls,IM ml fL ll,star (ls.map PgA)]) tks (SpaceA.cl (p:=p) (pa:=pa) (pp:=pp) (ms:=ms) (ml:=ml) hS hL) ?_
     exact en_rets (x:=(s:Slc)) rfl ⟨by rw[hn2,hyl],rfl⟩ tks ens
    ·refine en_ent (kv:= .int .i64) (g:=gL) hgL tk ?_
     have hkv:(k,v)∈ll:=hsub2 _ (by rw[hr];simp)
     obtain⟨hk0,hkp⟩:=(hL k v).mp hkv
     have hk:=getElem?_lt hkp
     refine en_nw fun b=> ?_
     dsimp only
     rw[wrap64 (n:=k*64) (by omega) (by omega)]
     refine en_app (s:=s) (x:=⟨some ⟨b,0,none⟩,1,1⟩) (ys:=[i64 (k*64)]) appInt tk (Rd.cl tk rfl rfl) rfl (by dsimp only;omega) (by dsimp only;omega) fun t ht=> ?_
     have e:ys.map i64++[i64 (k*64)]=(ys++[k*64]).map i64:=by simp
     rw[e]
     refine Tr.drop (A:=blk b [i64 (k*64)]) tk ?_
     refine hX (r3++r4).length _ _ (by rw[hr];simp) ⟨r3++r4,_,ys++[k*64],rfl,rfl,by dsimp only;rw[ht,hn2];simp,fun x hx=>hsub2 x ?_,?_⟩
     ·rw[hr];simp at hx⊢;rcases hx with h|h<;>simp[h]
     ·refine List.Perm.trans ?_ hpm2
      rw[hr,List.append_assoc]
      refine List.Perm.append_left _ ?_
      simp only[List.map_append,List.map_cons,List.singleton_append]
      exact List.perm_middle.symm
  ·obtain⟨q,c,l⟩:=v
   refine en_ent (kv:= .ptr) (g:=gS) hgS tk ?_
   have hkv:(k,q,c,l)∈ls:=hsub _ (by rw[hr];simp)
   obtain⟨hk0,hk,hc,hl,hl32⟩:=hent k q c l hkv
   have hz:=Sp.sz_cases hc
   obtain⟨pn,rfl⟩:∃n:Nat,k=n:=⟨k.toNat,by omega⟩
   obtain⟨l1,l2,hl12⟩:∃l1 l2,ls=l1++((pn:Int),q,c,l)::l2:=List.append_of_mem hkv
   rw[hr,List.flatMap_append,List.flatMap_cons]at hpm
   have hatl:(Sp.atE ((pn:Int),q,c,l))=Sp.at1 pn (.small c l):=by unfold Sp.atE;simp
   rw[hatl]at hpm
   have hsz:xs.length+(ls.flatMap Sp.atE).length≤20000:=by
    have:rem.flatMap Sp.atE=r1.flatMap Sp.atE++(Sp.at1 pn (.small c l)++r2.flatMap Sp.atE):=by rw[hr,List.flatMap_append,List.flatMap_cons,hatl]
    omega
   dsimp only[gS]
   refine en_nn ?_
   subst hl12
   refine Tr.mid (P:=PgA) tk ?_
   refine PageA.op (p:=q) (l:=l) (w:=(Sp.sz c:Int)) .here fun b=> ?_
   refine en_ld (k:= .ptr) (b:=q) (x:=some ⟨b,0,none⟩) (by rw[fa_mk]) tk rfl ?_
   refine en_call (bits_next b l 0 true (by omega)) tks ?_
   rintro x M ⟨rfl,rfl⟩
   try simp only[lca,lna]
   refine Tr.close (M:=[blk q [.pointer (some ⟨b,0,none⟩),i64 (Sp.sz c)],BitsA b l]) tks (PageA.cl (p:=q)) ?_
   refine Tr.take (A:=SLc s 1 (xs.map i64)) tk ?_
   refine en_lp (fun n u M=>(fun(t:Slc) (i:Int)=>∃(qn:Nat) (ys:List Int),n=l.length-qn∧i=Sp.next l qn true∧ys=xs++Sp.atTo pn c l qn∧qn≤l.length∧t.n=ys.length∧
     M=SLc t 1 (ys.map i64)::PageA q l (Sp.sz c)::star ((l1++l2).map PgA)::MI ms r fS (l1++((pn:Int),q,c,l)::l2) (r1++r2) (some ((pn:Int),q,c,l))::blk p [.pointer (some ⟨pa,0,none⟩),.pointer (some ⟨pp,0,none⟩),.map (some ms),.map (some ml)]::ArenaA pa S.ws::PagesA pp (S.pg.map Pg.taken)::IM ml fL ll::R) u.1 u.2.1) l.length ?_ ?_
   ·exact⟨0,xs,rfl,rfl,by simp[Sp.atTo],by omega,hn,rfl⟩
   ·rintro n ⟨(t:Slc),(i:Int),⟨⟩⟩ M ⟨qn,ys,rfl,hi,hys,hql,htn,rfl⟩ Y hY
    have hyl:ys.length≤30000:=by
     rw[hys,List.length_append]
     have:=Sp.atTo_len pn c l qn
     omega
    dsimp only at*
    rcases Sp.next_spec l true qn with ⟨g1,g2⟩|⟨kk,g1,g2,g3,g4,g5⟩
    ·refine en_brf (decide_eq_false (show¬(i:Int)≥0 by rw[hi,g1];decide)) ?_
     refine Tr.close (M:=[PageA q l (Sp.sz c),star ((l1++l2).map PgA)]) tks (pg_close (pn:Int) (q:=q) (c:=c) (l:=l)) ?_
     refine Tr.take (A:=SLc t 1 (ys.map i64)) tk ?_
     refine hX (r1++r2).length _ _ (by rw[hr];simp) ⟨r1++r2,_,ys,rfl,rfl,htn,fun x hx=>hsub x ?_,?_⟩
     ·rw[hr];simp at hx⊢;rcases hx with h|h<;>simp[h]
     ·refine List.Perm.trans ?_ hpm
      rw[hys,←Sp.atTo_skip (p:=pn) (c:=c) (q:=qn) (k:=l.length) (l:=l) (fun j h1 h2=>g2 j h1 h2) hql,Sp.atTo_all,List.append_assoc,List.flatMap_append]
      refine List.Perm.append_left _ ?_
      rw[←List.append_assoc,←List.append_assoc]
      exact List.perm_append_comm.append_right _
    ·refine en_brt (decide_eq_true (show(i:Int)≥0 by rw[hi,g1];omega)) ?_
     refine en_call (block_words q l (Sp.sz c)) tks ?_
     rintro x M ⟨rfl,rfl⟩
     try simp only[lca,lna]
     refine en_nw fun b2=> ?_
     rw[g1]at hi
     subst hi
     obtain⟨f1,f2,f3⟩:=sz_fit hc g3 hl
     have e1:(kk:Int)*(Sp.sz c:Int)=((kk*Sp.sz c:Nat):Int):=by simp
     rw[e1]
     have hone:=Sp.atTo_one (p:=pn) (c:=c) g4
     have hskip:=Sp.atTo_skip (p:=pn) (c:=c) (q:=qn) (k:=kk) (l:=l) g5 g2
     rw[hskip]at hone
     generalize kk*Sp.sz c=dd at f1 hone⊢
     rw[wrap64 (n:=(dd:Int)) (by omega) (by omega),wrap64 (n:=(pn:Int)*64) (by omega) (by omega),wrap64 (n:=(pn:Int)*64+(dd:Int)) (by omega) (by omega)]
     refine en_app (s:=t) (x:=⟨some ⟨b2,0,none⟩,1,1⟩) (ys:=[i64 ((pn:Int)*64+(dd:Int))]) appInt tk (Rd.cl tk rfl rfl) rfl (by dsimp only;omega) (by dsimp only;omega) fun t2 ht2=> ?_
     have e:ys.map i64++[i64 ((pn:Int)*64+(dd:Int))]=(ys++[((pn*64+dd:Nat):Int)]).map i64:=by simp
     rw[e]
     refine Tr.drop (A:=blk b2 [i64 ((pn:Int)*64+(dd:Int))]) tk ?_
     refine en_nn ?_
     refine PageA.op (p:=q) (l:=l) (w:=(Sp.sz c:Int)) tk fun b=> ?_
     refine en_ld (k:= .ptr) (b:=q) (x:=some ⟨b,0,none⟩) (by rw[fa_mk]) tk rfl ?_
     have w1:IntKind.wrap .i64 ((kk:Int)+1)=((kk+1:Nat):Int):=by rw[wrap64 (by omega) (by omega)];simp
     rw[w1]
     refine en_call (bits_next b l ((kk+1:Nat):Int) true (by omega)) tks ?_
     rintro x M ⟨rfl,rfl⟩
     try simp only[lca,lna]
     refine Tr.close (M:=[blk q [.pointer (some ⟨b,0,none⟩),i64 (Sp.sz c)],BitsA b l]) tks (PageA.cl (p:=q)) ?_
     refine Tr.take (A:=SLc t2 1 ((ys++[((pn*64+dd:Nat):Int)]).map i64)) tk ?_
     exact hY (l.length-(kk+1)) _ _ (by omega) ⟨kk+1,ys++[((pn*64+dd:Nat):Int)],rfl,rfl,by rw[hys,hone,List.append_assoc],by omega,by dsimp only;rw[ht2,htn];simp,rfl⟩
def Sp.wordsAt(S:Spc)(a:Int):Int:=match Sp.find S a with |some (_,w)=>(w:Int)|none=>0
theorem space_used(p:Nat)(S:Spc)(hw:Wf S):Gl.Spec ρ Tryz.prog 31 [.pointer (some ⟨p,0,none⟩)] [SpaceA p S] R1
  fun r M=>r=((Sp.each S).map (Sp.wordsAt S)).sum∧M=[SpaceA p S]:=by
 have hel:=Sp.each_len hw
 refine Spec.of (fun Q w' h=>F.space.Space.Used.calls (some ⟨p,0,none⟩) h) fun R=> ?_
 unfold F.space.Space.Used
 try simp only[lca,lna]
 refine en_call (space_each p S hw) tks ?_
 rintro s M ⟨hs,rfl⟩
 try simp only[lca,lna]
 refine Tr.keepSL (s:=s) tk fun ρ' hle hro=> ?_
 have hb:∀a∈Sp.each S,0≤Sp.wordsAt S a∧Sp.wordsAt S a≤1024:=fun a ha=>by
  obtain⟨n,rfl,_,w,h1,h2,h3,_⟩:=Sp.each_find hw ha
  unfold Sp.wordsAt;rw[h1];dsimp only;omega
 have hsum:∀k,k≤(Sp.each S).length→0≤(((Sp.each S).take k).map (Sp.wordsAt S)).sum∧(((Sp.each S).take k).map (Sp.wordsAt S)).sum≤1024*k:=by
  intro k
  induction k with
  |zero=>intro _;simp
  |succ k ih=>
   intro hk
   have:=ih (by omega)
   have h2:=hb ((Sp.each S).getD k 0) (by rw[List.getD_eq_getElem?_getD,List.getElem?_eq_getElem (by omega)];exact List.getElem_mem _)
   rw[take_succ_getD 0 (by omega),List.map_append,List.sum_append]
   simp only[List.map_cons,List.map_nil,List.sum_cons,List.sum_nil]
   omega
 refine en_lp (fun n u M=>(fun c i:Int=>M=SpaceA p S::R∧0≤i∧i≤(Sp.each S).length∧n=(Sp.each S).length-i.toNat∧c=(((Sp.each S).take i.toNat).map (Sp.wordsAt S)).sum) u.1 u.2.1) (Sp.each S).length ?_ ?_
 ·exact⟨rfl,by simp,by simp,by simp,by simp⟩
 ·rintro n ⟨(c:Int),(i:Int),⟨⟩⟩ M ⟨rfl,h0,h1,rfl,hc⟩ X hX
  dsimp only at*
  refine en_br (fun h=> ?_) (fun h=> ?_)
  ·replace h:i<(s.n:Int):=of_decide_eq_true h
   have hi:i.toNat<(Sp.each S).length:=by omega
   refine en_ixRo hro h0 h fun a0 ha=> ?_
   refine en_ldRo (j:=i.toNat) (x:=(Sp.each S).getD i.toNat 0) ha hro (by rintro b o rfl;simp[fa_mk]) (getD_map hi) ?_
   refine en_call (space_find p S hw ((Sp.each S).getD i.toNat 0)) tks ?_
   rintro x M ⟨rfl,rfl⟩
   try simp only[lca,lna]
   have e:(Sp.found (Sp.find S ((Sp.each S).getD i.toNat 0))).2.1=Sp.wordsAt S ((Sp.each S).getD i.toNat 0):=by
    unfold Sp.wordsAt Sp.found
    cases Sp.find S ((Sp.each S).getD i.toNat 0)<;>rfl
   rw[e]
   have hs1:=hsum i.toNat (by omega)
   have hs2:=hsum (i.toNat+1) (by omega)
   have hstep:(((Sp.each S).take (i.toNat+1)).map (Sp.wordsAt S)).sum=c+Sp.wordsAt S ((Sp.each S).getD i.toNat 0):=by
    rw[take_succ_getD 0 hi,List.map_append,List.sum_append,hc];simp
   rw[hstep]at hs2
   rw[wrap64 (n:=c+Sp.wordsAt S ((Sp.each S).getD i.toNat 0)) (by omega) (by omega),wrap64 (n:=i+1) (by omega) (by omega)]
   refine hX ((Sp.each S).length-(i+1).toNat) _ _ (by omega) ⟨rfl,by dsimp only;omega,by dsimp only;omega,rfl,?_⟩
   dsimp only
   rw[show(i+1).toNat=i.toNat+1 by omega,hstep]
  ·replace h:¬i<(s.n:Int):=of_decide_eq_false h
   rw[List.take_of_length_le (by omega)]at hc
   rw[hc]
   exact en_rets (x:=((Sp.each S).map (Sp.wordsAt S)).sum) rfl ⟨rfl,rfl⟩ tks ens
end Go.Proofs.YtfepdmpplahloaaGreat
