/- Space5 Space6 Space7 Space8. -/
import Derived.Test.YtfepdmpplahloaaGreatGsSpace4
set_option linter.unusedSimpArgs false
set_option linter.unusedVariables false
namespace Go.Proofs.YtfepdmpplahloaaGreat
open Go Go.Gl
variable{ρ0 ρ:FR}{L L':List aA}{Post:Value→List aA→Prop}{T:Tree}
def Sp.E9(pg:List Pg)(i c:Nat)(l:List Bool):Prop:=pg[i]? =some (.small c l)∨(pg[i]? =some .free∧l=List.replicate (64/Sp.sz c) false∧Sp.run (pg.map Pg.taken) 1=some i)
theorem Sp.h9{S:aD}(hw:Wf S){w:Int}(hb:Sp.aw w≠0):
  Sp.place S.pg w=(0,3,S.pg)∨
  (∃i k:Nat,Sp.cls w<0∧Sp.jL w=k∧1≤k∧k≤16∧Sp.aw w=((k*64:Nat):Int)∧i+k≤S.pg.length∧(∀j:Nat,i≤j→j<i+k→S.pg[j]? =some .free)∧Sp.place S.pg w=(((i*64:Nat):Int),0,Sp.kD S.pg i k))∨
  (∃(c i k:Nat) (l:List Bool),Sp.cls w=c∧c<5∧Sp.aw w=(Sp.sz c:Int)∧i<S.pg.length∧Sp.E9 S.pg i c l∧l.length=64/Sp.sz c∧k<l.length∧l.getD k false=false∧
   Sp.place S.pg w=(((i*64+k*Sp.sz c:Nat):Int),0,S.pg.set i (.small c (l.set k true)))):=by
 by_cases h:Sp.cls w<0
 ·obtain⟨k1,k2,k3⟩:=Sp.oy hb h
  obtain⟨k,hk⟩:∃k:Nat,Sp.jL w=k:=⟨(Sp.jL w).toNat,by omega⟩
  have hpl:Sp.place S.pg w=(match Sp.run (S.pg.map Pg.taken) k with |some p=>(((p*64:Nat):Int),0,Sp.kD S.pg p k)|none=>(0,3,S.pg)):=by
   unfold Sp.place;rw[if_pos h,hk,Int.toNat_natCast];rfl
  cases hr:Sp.run (S.pg.map Pg.taken) k with
  |none=>rw[hr]at hpl;exact .inl hpl
  |some i=>
   rw[hr]at hpl
   obtain⟨hi,hfree⟩:=jY hr
   exact .inr (.inl ⟨i,k,h,hk,by omega,by omega,by omega,hi,hfree,hpl⟩)
 ·have hcc:=Sp.iT w
  obtain⟨c,hc⟩:∃c:Nat,Sp.cls w=c:=⟨(Sp.cls w).toNat,by omega⟩
  have hc5:c<5:=by omega
  have hz:=Sp.cZ hc5
  have hblk:Sp.aw w=(Sp.sz c:Int):=by unfold Sp.aw;rw[if_pos (by omega),hc,Int.toNat_natCast,Sp.rF hc5]
  have h32:0<64/Sp.sz c:=by rcases hz with ⟨_,e⟩|⟨_,e⟩|⟨_,e⟩|⟨_,e⟩|⟨_,e⟩<;>rw[e]<;>decide
  have hpl:Sp.place S.pg w=(match Sp.iW S.pg c with
   |some p=>Sp.cw S.pg p c (Sp.blocks S.pg p)
   |none=>(match Sp.run (S.pg.map Pg.taken) 1 with
    |some p=>Sp.cw S.pg p c (List.replicate (64/Sp.sz c) false)
    |none=>(0,3,S.pg))):=by unfold Sp.place;rw[if_neg h,hc,Int.toNat_natCast];rfl
  cases ho:Sp.iW S.pg c with
  |some i=>
   rw[ho]at hpl
   obtain⟨l,hp,hcnt⟩:=Sp.tp ho
   obtain⟨k,g1,g2,g3⟩:=ig hcnt
   have hbl:Sp.blocks S.pg i=l:=by unfold Sp.blocks;rw[hp]
   refine .inr (.inr ⟨c,i,k,l,hc,hc5,hblk,aV hp,.inl hp,(hw.small _ _ _ hp).2,g2,g3,?_⟩)
   rw[hpl];dsimp only
   rw[hbl];unfold Sp.cw;rw[g1,Int.toNat_natCast]
  |none=>
   rw[ho]at hpl
   cases hr:Sp.run (S.pg.map Pg.taken) 1 with
   |none=>rw[hr]at hpl;exact .inl hpl
   |some i=>
    rw[hr]at hpl
    obtain⟨hi,hfree⟩:=jY hr
    obtain⟨k,g1,g2,g3⟩:=tx (n:=64/Sp.sz c) h32
    refine .inr (.inr ⟨c,i,k,List.replicate (64/Sp.sz c) false,hc,hc5,hblk,by omega,.inr ⟨hfree i (by omega) (by omega),rfl,hr⟩,by simp,g2,g3,?_⟩)
    rw[hpl];dsimp only
    unfold Sp.cw;rw[g1,Int.toNat_natCast]
theorem lH{c k n:Nat}(hc:c<5)(hk:k<n)(hn:n=64/Sp.sz c):k*Sp.sz c+Sp.sz c≤64∧2≤Sp.sz c∧Sp.sz c≤32:=by
 have hz:=Sp.cZ hc
 subst hn
 rcases hz with ⟨_,e⟩|⟨_,e⟩|⟨_,e⟩|⟨_,e⟩|⟨_,e⟩<;>rw[e]at hk⊢<;>omega
theorem Sp.ny{S:aD}(hw:Wf S){w:Int}(hb:Sp.aw w≠0):Sp.place S.pg w=(0,3,S.pg)∨
  ((Sp.place S.pg w).2.1=0∧∃a n:Nat,(Sp.place S.pg w).1=a∧Sp.aw w=n∧2≤n∧n≤1024∧a+n≤S.ws.length):=by
 have hl:=hw.len
 rcases Sp.h9 hw hb with h|⟨i,k,_,_,h1,h2,h3,h4,_,h⟩|⟨c,i,k,l,_,h1,h2,h3,_,h5,h6,_,h⟩
 ·exact .inl h
 ·rw[h];exact .inr ⟨rfl,i*64,k*64,rfl,h3,by omega,by omega,by omega⟩
 ·obtain⟨f1,f2,f3⟩:=lH h1 h6 h5
  rw[h];exact .inr ⟨rfl,i*64+k*Sp.sz c,Sp.sz c,rfl,h2,f2,by omega,by omega⟩
theorem sW(p:Nat)(S:aD)(hw:Wf S)(w:Int):Gl.Spec ρ Tryz.prog 157 [.pointer (some ⟨p,0,none⟩),i64 w] [aF p S] P2
  fun r M=>r=((Sp.alloc S w).1,(Sp.alloc S w).2.1,())∧M=[aF p (Sp.alloc S w).2.2]:=by
 have hmost:=hw.gv
 have hlen:=hw.len
 refine Spec.of (fun Q w' h=>F.space.bn.Alloc.calls (some ⟨p,0,none⟩) w h) fun R=> ?_
 unfold F.space.bn.Alloc
 try simp only[aq,al]
 refine ae (vj w) ag ?_
 rintro x M ⟨rfl,rfl⟩
 try simp only[aq,al]
 refine ak rfl (aj (fun h=> ?_) (fun h=> ?_))
 ·replace h:Sp.aw w=0:=by simpa using h
  have e:Sp.alloc S w=(0,1,S):=by unfold Sp.alloc;rw[if_pos h]
  rw[e]
  exact aa (x:=((0:Int),(1:Int),())) rfl ⟨rfl,rfl⟩ ag aB
 ·replace h:¬Sp.aw w=0:=by simpa using h
  refine ae (th p S hw w h) ag ?_
  rintro x M ⟨rfl,rfl⟩
  try simp only[aq,al]
  rcases Sp.ny hw h with hp|⟨hp,a,n,ha,hn,n1,n2,n3⟩
  ·have e:Sp.alloc S w=(0,3,S):=by unfold Sp.alloc;rw[if_neg h,hp];rfl
   rw[e,hp]
   refine aH rfl ?_
   exact aa (x:=((0:Int),(3:Int),())) rfl ⟨rfl,rfl⟩ ag aB
  ·have e:Sp.alloc S w=((a:Int),0,⟨Sp.eJ S.ws a n,(Sp.place S.pg w).2.2⟩):=by
    unfold Sp.alloc;rw[if_neg h,if_pos hp,ha,hn,Int.toNat_natCast,Int.toNat_natCast]
   rw[e,hp,ha]
   refine ak rfl (ah (aF.op tk fun pa pp ms ml ls ll hS hL nS nL=> ?_))
   refine ai (k:= .ptr) (x:=some ⟨pa,0,none⟩) (by rw[af]) tk rfl ?_
   rw[hn]
   refine ae (vx pa S.ws (a:Int) (n:Int) (by omega) (by omega) (by omega) (by omega)) ag ?_
   rintro x M ⟨rfl,rfl⟩
   try simp only[aq,al]
   rw[Int.toNat_natCast,Int.toNat_natCast]
   refine Tr.close ag (aF.cl (p:=p) (pa:=pa) (pp:=pp) (ms:=ms) (ml:=ml) (S:=⟨Sp.eJ S.ws a n,(Sp.place S.pg w).2.2⟩) hS hL) ?_
   exact aa (x:=((a:Int),(0:Int),())) rfl ⟨rfl,rfl⟩ ag aB
theorem lY{ws:List Int}{i n:Nat}(h:i+n≤ws.length):(Sp.eJ ws i n).length=ws.length:=by simp[Sp.eJ];omega
theorem cB{pg:List Pg}{i j:Nat}{x:Pg}(h:i<pg.length):(pg.set i x)[j]? =if i=j then some x else pg[j]? :=by
 rw[List.getElem?_set]
 by_cases hij:i=j
 ·rw[if_pos hij,if_pos hij,if_pos (by omega)]
 ·rw[if_neg hij,if_neg hij]
theorem Wf.rv{S:aD}(hw:Wf S){i c:Nat}{l:List Bool}{ws:List Int}(hws:ws.length=S.ws.length)(hc:c<5)(hl:l.length=64/Sp.sz c)(hp:S.pg[i]? =some .free∨∃c' l',S.pg[i]? =some (.small c' l')):Wf ⟨ws,S.pg.set i (.small c l)⟩:=by
 have hi:i<S.pg.length:=by rcases hp with h|⟨_,_,h⟩<;>exact aV h
 have nh:∀k,S.pg[i]? ≠some (.head k):=by intro k h;rcases hp with h'|⟨_,_,h'⟩<;>rw[h']at h<;>cases h
 have nt:S.pg[i]? ≠some .tail:=by intro h;rcases hp with h'|⟨_,_,h'⟩<;>rw[h']at h<;>cases h
 have nr:S.pg[i]? ≠some .res:=by intro h;rcases hp with h'|⟨_,_,h'⟩<;>rw[h']at h<;>cases h
 refine⟨by simp[hws,hw.len],by simp[hw.gv],by simp[hw.pos],?_,?_,?_,?_⟩
 ·intro j
  dsimp only
  rw[cB hi]
  split
  ·rename_i e;subst e
   simp only[reduceCtorEq,Option.some.injEq,false_iff]
   intro h;exact nr ((hw.res i).mpr h)
  ·exact hw.res j
 ·intro j c' l' h
  dsimp only at h
  rw[cB hi]at h
  split at h
  ·simp at h;rw[←h.1,←h.2];exact⟨hc,hl⟩
  ·exact hw.small j c' l' h
 ·intro j k h
  dsimp only at h⊢
  rw[cB hi]at h
  split at h
  ·cases h
  ·obtain⟨h1,h2,h3,h4⟩:=hw.head j k h
   refine⟨h1,h2,by simpa using h3,fun j' g1 g2=> ?_⟩
   rw[cB hi]
   split
   ·rename_i e;subst e;exact absurd (h4 i g1 g2) nt
   ·exact h4 j' g1 g2
 ·intro j h
  dsimp only at h⊢
  rw[cB hi]at h
  split at h
  ·cases h
  ·obtain⟨j',k,h1,h2⟩:=hw.tail j h
   refine⟨j',k,?_,h2⟩
   rw[cB hi]
   split
   ·rename_i e;subst e;exact absurd h1 (nh k)
   ·exact h1
theorem Wf.xp{S:aD}(hw:Wf S){i k:Nat}{ws:List Int}(hws:ws.length=S.ws.length)(hk1:1≤k)(hk:k≤16)(hi:i+k≤S.pg.length)(hfree:∀j:Nat,i≤j→j<i+k→S.pg[j]? =some .free):Wf ⟨ws,Sp.kD S.pg i k⟩:=by
 refine⟨by simp[hws,hw.len,iZ],by simp[hw.gv,iZ],by simp[hw.pos,iZ],?_,?_,?_,?_⟩
 ·intro j
  dsimp only
  by_cases hj:i≤j∧j<i+k
  ·have hf:=hfree j hj.1 hj.2
   have hj0:j≠0:=fun e=>by have:=(hw.res j).mpr e;rw[hf]at this;cases this
   rw[cA,if_pos (by omega)]
   split
   ·simp[hj0]
   ·rw[if_pos (by omega)];simp[hj0]
  ·rw[dn hk1 hj];exact hw.res j
 ·intro j c l h
  dsimp only at h
  by_cases hj:i≤j∧j<i+k
  ·rw[cA,if_pos (by omega)]at h
   split at h
   ·cases h
   ·rw[if_pos (by omega)]at h;cases h
  ·rw[dn hk1 hj]at h;exact hw.small j c l h
 ·intro j k' h
  dsimp only at h⊢
  rw[iZ]
  by_cases hj:i≤j∧j<i+k
  ·rw[cA,if_pos (by omega)]at h
   split at h
   ·rename_i e;subst e
    injection h with h;injection h with h;subst h
    refine⟨hk1,hk,hi,fun j' g1 g2=> ?_⟩
    rw[cA,if_pos (by omega),if_neg (by omega),if_pos ⟨g1,g2⟩]
   ·rw[if_pos (by omega)]at h;cases h
  ·rw[dn hk1 hj]at h
   obtain⟨h1,h2,h3,h4⟩:=hw.head j k' h
   refine⟨h1,h2,h3,fun j' g1 g2=> ?_⟩
   have:=h4 j' g1 g2
   by_cases hj':i≤j'∧j'<i+k
   ·rw[hfree j' hj'.1 hj'.2]at this;cases this
   ·rw[dn hk1 hj'];exact this
 ·intro j h
  dsimp only at h⊢
  by_cases hj:i≤j∧j<i+k
  ·rw[cA,if_pos (by omega)]at h
   split at h
   ·cases h
   ·exact⟨i,k,by rw[cA,if_pos (by omega),if_pos rfl],by omega,by omega⟩
  ·rw[dn hk1 hj]at h
   obtain⟨j',k',h1,h2⟩:=hw.tail j h
   refine⟨j',k',?_,h2⟩
   by_cases hj':i≤j'∧j'<i+k
   ·rw[hfree j' hj'.1 hj'.2]at h1;cases h1
   ·rw[dn hk1 hj'];exact h1
theorem Sp.pX{S:aD}(hw:Wf S)(w:Int):Wf (Sp.alloc S w).2.2:=by
 unfold Sp.alloc
 split
 ·exact hw
 ·rename_i hb
  split
  ·rename_i h0
   rcases Sp.ny hw hb with hp|⟨_,a,n,ha,hn,n1,n2,n3⟩
   ·rw[hp]at h0;cases h0
   ·have hcl:(Sp.eJ S.ws (Sp.place S.pg w).1.toNat (Sp.aw w).toNat).length=S.ws.length:=by
     rw[ha,hn,Int.toNat_natCast,Int.toNat_natCast];exact lY n3
    dsimp only
    rcases Sp.h9 hw hb with h|⟨i,k,_,_,h1,h2,h3,h4,h5,h⟩|⟨c,i,k,l,_,h1,h2,h3,h4,h5,h6,_,h⟩
    ·rw[h]at h0;cases h0
    ·have e:(Sp.place S.pg w).2.2=Sp.kD S.pg i k:=by rw[h]
     rw[e];exact hw.xp hcl h1 h2 h4 h5
    ·have e:(Sp.place S.pg w).2.2=S.pg.set i (.small c (l.set k true)):=by rw[h]
     rw[e]
     refine hw.rv hcl h1 (by simpa using h5) ?_
     rcases h4 with h4|⟨h4,_⟩
     ·exact .inr ⟨c,l,h4⟩
     ·exact .inl h4
  ·exact hw
end Go.Proofs.YtfepdmpplahloaaGreat
namespace Go.Proofs.YtfepdmpplahloaaGreat
open Go Go.Gl
variable{ρ0 ρ:FR}{L L':List aA}{Post:Value→List aA→Prop}{T:Tree}
theorem Sp.jm{S:aD}(hw:Wf S){n s w:Nat}(h:Sp.find S n=some (s,w))(e:s=n):
  n<S.ws.length∧((∃c l k,S.pg[n/64]? =some (.small c l)∧c<5∧l.length=64/Sp.sz c∧k=n%64/Sp.sz c∧l.getD k false=true∧n=n/64*64+k*Sp.sz c∧w=Sp.sz c)∨
   ∃k,S.pg[n/64]? =some (.head k)∧n=n/64*64∧w=k*64):=by
 have hn:n<S.ws.length:=by
  rcases Nat.lt_or_ge n S.ws.length with c|c
  ·exact c
  ·rw[Sp.dA (by omega)]at h;cases h
 refine⟨hn,?_⟩
 by_cases hsm:∃c l,S.pg[n/64]? =some (.small c l)
 ·obtain⟨c,l,hsm⟩:=hsm
  rw[Sp.dy hn hsm]at h
  split at h
  ·rename_i hl
   injection h with h;injection h with h1 h2
   obtain⟨hc,hll⟩:=hw.small _ _ _ hsm
   exact .inl ⟨c,l,_,hsm,hc,hll,rfl,hl,by omega,h2.symm⟩
  ·cases h
 ·have hns:∀c l,S.pg[n/64]? ≠some (.small c l):=fun c l h=>hsm ⟨c,l,h⟩
  rw[Sp.cO hn hns]at h
  cases ho:Sp.own S.pg (n/64)with
  |none=>rw[ho]at h;cases h
  |some x=>
   obtain⟨j,k⟩:=x
   rw[ho]at h
   injection h with h;injection h with h1 h2
   obtain⟨g1,g2,g3⟩:=Sp.p5 ho
   dsimp only at h1 h2
   have:j=n/64:=by omega
   subst this
   exact .inr ⟨k,g1,by omega,h2.symm⟩
theorem vF(p:Nat)(S:aD)(hw:Wf S)(a:Int):Gl.Spec ρ Tryz.prog 152 [.pointer (some ⟨p,0,none⟩),i64 a] [aF p S] R1
  fun r M=>r=(Sp.cJ S a).1∧M=[aF p (Sp.cJ S a).2]:=by
 have hmost:=hw.gv
 have hlen:=hw.len
 refine Spec.of (fun Q w' h=>F.space.bn.CI.calls (some ⟨p,0,none⟩) a h) fun R=> ?_
 unfold F.space.bn.CI
 try simp only[aq,al]
 refine ae (lM p S hw a) ag ?_
 rintro x M ⟨rfl,rfl⟩
 try simp only[aq,al]
 cases hf:Sp.find S a with
 |none=>
  have e:Sp.cJ S a=(2,S):=by unfold Sp.cJ;rw[hf]
  rw[e]
  refine aH rfl ?_
  exact aa (x:=(2:Int)) rfl ⟨rfl,rfl⟩ ag aB
 |some x=>
  obtain⟨s,w⟩:=x
  refine ak rfl (aj (fun h=> ?_) (fun h=> ?_))
  ·have h:¬(s:Int)=a:=by simpa[Sp.found]using h
   have e:Sp.cJ S a=(2,S):=by unfold Sp.cJ;rw[hf];dsimp only;rw[if_neg h]
   rw[e]
   exact aa (x:=(2:Int)) rfl ⟨rfl,rfl⟩ ag aB
  ·have h:(s:Int)=a:=by simpa[Sp.found]using h
   subst h
   obtain⟨hn,hcase⟩:=Sp.jm hw hf rfl
   have hp:s/64<S.pg.length:=by omega
   refine bu (by decide) (ah (aF.op tk fun pa pp ms ml ls ll hS hL nS nL=> ?_))
   refine ai (k:= .map) (x:=some ms) (by rw[af]) tk rfl ?_
   rw[Ak,wrap64 (n:=((s/64:Nat):Int)) (by omega) (by omega)]
   refine l9 (kd:= .ptr) (g:=gS) (z0:=none) Di uI EO Ds tk ?_
   have hp0:1≤s/64:=by
    rcases Nat.eq_zero_or_pos (s/64)with h0|h0
    ·have:=(hw.res (s/64)).mpr h0
     rcases hcase with ⟨c,l,k,h1,_⟩|⟨k,h1,_⟩<;>rw[this]at h1<;>cases h1
    ·exact h0
   rcases hcase with ⟨c,l,k,h1,h2,h3,h4,h5,h6,h7⟩|⟨k,h1,h2,h3⟩
   ·obtain⟨q,hq⟩:=hS.get nS h1
    have e:Sp.cJ S s=(0,⟨S.ws,S.pg.set (s/64) (if(l.set k false).count true=0 then .free else .small c (l.set k false))⟩):=by
     unfold Sp.cJ;rw[hf];dsimp only;rw[if_pos rfl,Int.toNat_natCast,h1];dsimp only;rw[←h4]
    rw[e,hq]
    have hz:=Sp.cZ h2
    have hl32:(l.set k false).length≤32:=by rw[List.length_set,h3];rcases hz with ⟨_,e⟩|⟨_,e⟩|⟨_,e⟩|⟨_,e⟩|⟨_,e⟩<;>rw[e]<;>decide
    have ou:=hS.set nS (p:=s/64) (c:=c) (q:=q) (l:=l.set k false) hp
    obtain⟨l1,l2,hl12,has,hdel⟩:=gP hq
    rw[has]at ou
    subst hl12
    refine ak rfl (bu (by decide) ?_)
    refine Tr.Dy (P:=lC) tk ?_
    refine ae (dz q l (Sp.sz c)) (aI.cons .here .nil) ?_
    rintro x M ⟨rfl,rfl⟩
    try simp only[aq,al]
    refine bu (by omega) ?_
    rw[zZ,C8,←h4]
    have hk64:k≤64:=by rw[h4];have:=Nat.div_le_self (s%64) (Sp.sz c);omega
    rw[wrap64 (n:=(k:Int)) (by omega) (by omega)]
    refine ae (vM q l (Sp.sz c) k h5) (aI.cons .here .nil) ?_
    rintro x M ⟨rfl,rfl⟩
    try simp only[aq,al]
    refine ak rfl ?_
    refine ae (ti q (l.set k false) (Sp.sz c) hl32) (aI.cons .here .nil) ?_
    rintro x M ⟨rfl,rfl⟩
    try simp only[aq,al]
    refine aj (fun h8=> ?_) (fun h8=> ?_)
    ·have h8:¬(l.set k false).count true=0:=by simpa using h8
     rw[if_neg h8]
     refine Tr.close (M:=[bF q (l.set k false) (Sp.sz c),star ((l1++l2).map lC)]) ag (eW ((s/64:Nat):Int) (q:=q) (c:=c) (l:=l.set k false)) ?_
     refine Tr.imp (A:=IM ms fS (l1++(((s/64:Nat):Int),q,c,l)::l2)) (A':=IM ms fS (l1++(((s/64:Nat):Int),q,c,l.set k false)::l2)) tk (IM.ghost (by simp[fS])) ?_
     have htk:S.pg.map Pg.taken=(S.pg.set (s/64) (.small c (l.set k false))).map Pg.taken:=by
      rw[nC hp]
      refine mo (by rw[Sp.mB]) fun j hj=> ?_
      rw[Sp.mG hj]
      split
      ·have:j=s/64:=by omega
       subst this
       rw[cr,fI h1];rfl
      ·rfl
     rw[htk]
     have hL2:cG (S.pg.set (s/64) (.small c (l.set k false))) ll:=hL.same (gC (fun k h=>by rw[h1]at h;cases h) (fun k h=>by cases h))
     refine Tr.close ag (aF.cl (p:=p) (pa:=pa) (pp:=pp) (ms:=ms) (ml:=ml) (S:=⟨S.ws,S.pg.set (s/64) (.small c (l.set k false))⟩) ou hL2) ?_
     exact aa (x:=(0:Int)) rfl ⟨rfl,rfl⟩ ag aB
    ·have h8:(l.set k false).count true=0:=by simpa using h8
     rw[if_pos h8]
     refine ah ?_
     refine ai (k:= .map) (x:=some ms) (by rw[af]) tk rfl ?_
     refine zS (l:=l1++(((s/64:Nat):Int),q,c,l)::l2) rfl Di uI tk ?_
     refine ah ?_
     refine ai (k:= .ptr) (x:=some ⟨pp,0,none⟩) (by rw[af]) tk rfl ?_
     have hgive:=qc (ρ:=ρ) pp (S.pg.map Pg.taken) (s/64) 1 hp0 (by omega) (by rw[List.length_map];omega) (by simpa using hmost) (fun j g1 g2=>by
      have:j=s/64:=by omega
      subst this
      rw[cr,fI h1];rfl)
     refine ae hgive ag ?_
     rintro x M ⟨rfl,rfl⟩
     try simp only[aq,al]
     have hS2:cx (S.pg.set (s/64) .free) (ir ((s/64:Nat):Int) (l1++(((s/64:Nat):Int),q,c,l)::l2)):=hS.del nS (fun c l h=>by cases h)
     have hL2:cG (S.pg.set (s/64) .free) ll:=hL.same (gC (fun k h=>by rw[h1]at h;cases h) (fun k h=>by cases h))
     rw[hdel]at hS2⊢
     rw[show Sp.oq (S.pg.map Pg.taken) false (s/64) 1=(S.pg.set (s/64) .free).map Pg.taken from(nC (x:= .free) hp).symm]
     refine Tr.close ag (aF.cl (p:=p) (pa:=pa) (pp:=pp) (ms:=ms) (ml:=ml) (S:=⟨S.ws,S.pg.set (s/64) .free⟩) hS2 hL2) ?_
     exact aa (x:=(0:Int)) rfl ⟨rfl,rfl⟩ ag aB
   ·have hns:∀c l,S.pg[s/64]? ≠some (.small c l):=fun c l h=>by rw[h1]at h;cases h
    have e:Sp.cJ S s=(0,⟨S.ws,Sp.fQ S.pg (s/64) k⟩):=by
     unfold Sp.cJ;rw[hf];dsimp only;rw[if_pos rfl,Int.toNat_natCast,h1]
    obtain⟨k1,k2,k3,k4⟩:=hw.head _ _ h1
    rw[e,hS.none hns]
    refine aH rfl (ah ?_)
    refine ai (k:= .map) (x:=some ml) (by rw[af]) tk rfl ?_
    refine mI (kd:= .int .i64) (g:=gL) (z0:=(0:Int)) ER uI zI EH tk ?_
    rw[hL.get nL h1]
    refine ah ?_
    refine ai (k:= .map) (x:=some ml) (by rw[af]) tk rfl ?_
    refine zS (l:=ll) rfl ER uI tk ?_
    refine ah ?_
    refine ai (k:= .ptr) (x:=some ⟨pp,0,none⟩) (by rw[af]) tk rfl ?_
    have htail:∀j:Nat,s/64≤j→j<s/64+k→S.pg[j]? =some (.head k)∧j=s/64∨S.pg[j]? =some .tail:=fun j g1 g2=>by
     rcases Nat.lt_or_ge (s/64) j with g|g
     ·exact .inr (k4 j g g2)
     ·have:j=s/64:=by omega
      subst this;exact .inl ⟨h1,rfl⟩
    have hgive:=qc (ρ:=ρ) pp (S.pg.map Pg.taken) (s/64) k hp0 (by omega) (by simpa using k3) (by simpa using hmost) (fun j g1 g2=>by
     rcases htail j g1 g2 with ⟨h,_⟩|h<;>rw[cr,fI h]<;>rfl)
    refine ae hgive ag ?_
    rintro x M ⟨rfl,rfl⟩
    try simp only[aq,al]
    have hS2:cx (Sp.fQ S.pg (s/64) k) ls:=hS.same (fun j c l=>by
     by_cases hj:s/64≤j∧j<s/64+k
     ·rw[db,if_pos (by omega),if_pos hj]
      rcases htail j hj.1 hj.2 with ⟨h,_⟩|h<;>rw[h]<;>constructor<;>intro h<;>cases h
     ·rw[dq hj])
    have hL2:cG (Sp.fQ S.pg (s/64) k) (ir ((s/64:Nat):Int) ll):=hL.del nL (fun k' h=>by rw[db,if_pos hp,if_pos ⟨by omega,by omega⟩]at h;cases h) (fun j k' hj=>by
     by_cases hj2:s/64≤j∧j<s/64+k
     ·rw[db,if_pos (by omega),if_pos hj2]
      rcases htail j hj2.1 hj2.2 with ⟨_,h⟩|h
      ·exact absurd h hj
      ·rw[h];constructor<;>intro h<;>cases h
     ·rw[dq hj2])
    rw[←ua]
    refine Tr.close ag (aF.cl (p:=p) (pa:=pa) (pp:=pp) (ms:=ms) (ml:=ml) (S:=⟨S.ws,Sp.fQ S.pg (s/64) k⟩) hS2 hL2) ?_
    exact aa (x:=(0:Int)) rfl ⟨rfl,rfl⟩ ag aB
theorem Wf.yX{S:aD}(hw:Wf S){i c:Nat}{l:List Bool}(hp:S.pg[i]? =some (.small c l)):Wf ⟨S.ws,S.pg.set i .free⟩:=by
 have hi:=aV hp
 refine⟨by simp[hw.len],by simp[hw.gv],by simp[hw.pos],?_,?_,?_,?_⟩
 ·intro j
  dsimp only
  rw[cB hi]
  split
  ·rename_i e;subst e
   simp only[reduceCtorEq,Option.some.injEq,false_iff]
   intro h;have:=(hw.res i).mpr h;rw[hp]at this;cases this
  ·exact hw.res j
 ·intro j c' l' h
  dsimp only at h
  rw[cB hi]at h
  split at h
  ·cases h
  ·exact hw.small j c' l' h
 ·intro j k h
  dsimp only at h⊢
  rw[cB hi]at h
  split at h
  ·cases h
  ·obtain⟨h1,h2,h3,h4⟩:=hw.head j k h
   refine⟨h1,h2,by simpa using h3,fun j' g1 g2=> ?_⟩
   rw[cB hi]
   split
   ·rename_i e;subst e;have:=h4 i g1 g2;rw[hp]at this;cases this
   ·exact h4 j' g1 g2
 ·intro j h
  dsimp only at h⊢
  rw[cB hi]at h
  split at h
  ·cases h
  ·obtain⟨j',k,h1,h2⟩:=hw.tail j h
   refine⟨j',k,?_,h2⟩
   rw[cB hi]
   split
   ·rename_i e;subst e;rw[hp]at h1;cases h1
   ·exact h1
theorem Wf.vf{S:aD}(hw:Wf S){i k:Nat}(hp:S.pg[i]? =some (.head k)):Wf ⟨S.ws,Sp.fQ S.pg i k⟩:=by
 obtain⟨k1,k2,k3,k4⟩:=hw.head _ _ hp
 have hr:∀j:Nat,i≤j→j<i+k→S.pg[j]? ≠some .res:=fun j g1 g2 h=>by
  rcases Nat.lt_or_ge i j with g|g
  ·rw[k4 j g g2]at h;cases h
  ·have:j=i:=by omega
   subst this;rw[hp]at h;cases h
 refine⟨by simp[hw.len,iD],by simp[hw.gv,iD],by simp[hw.pos,iD],?_,?_,?_,?_⟩
 ·intro j
  dsimp only
  by_cases hj:i≤j∧j<i+k
  ·rw[db,if_pos (by omega),if_pos hj]
   simp only[reduceCtorEq,Option.some.injEq,false_iff]
   intro h;exact hr j hj.1 hj.2 ((hw.res j).mpr h)
  ·rw[dq hj];exact hw.res j
 ·intro j c l h
  dsimp only at h
  by_cases hj:i≤j∧j<i+k
  ·rw[db,if_pos (by omega),if_pos hj]at h;cases h
  ·rw[dq hj]at h;exact hw.small j c l h
 ·intro j k' h
  dsimp only at h⊢
  rw[iD]
  by_cases hj:i≤j∧j<i+k
  ·rw[db,if_pos (by omega),if_pos hj]at h;cases h
  ·rw[dq hj]at h
   obtain⟨h1,h2,h3,h4⟩:=hw.head j k' h
   refine⟨h1,h2,h3,fun j' g1 g2=> ?_⟩
   by_cases hj':i≤j'∧j'<i+k
   ·have:=hw.uniq h hp ⟨by omega,g2⟩ hj'
    omega
   ·rw[dq hj'];exact h4 j' g1 g2
 ·intro j h
  dsimp only at h⊢
  by_cases hj:i≤j∧j<i+k
  ·rw[db,if_pos (by omega),if_pos hj]at h;cases h
  ·rw[dq hj]at h
   obtain⟨j',k',h1,h2⟩:=hw.tail j h
   refine⟨j',k',?_,h2⟩
   by_cases hj':i≤j'∧j'<i+k
   ·exfalso
    rcases Nat.lt_or_ge i j' with g|g
    ·rw[k4 j' g hj'.2]at h1;cases h1
    ·have:j'=i:=by omega
     subst this
     rw[hp]at h1;injection h1 with h1;injection h1 with h1
     omega
   ·rw[dq hj'];exact h1
theorem Sp.wG{S:aD}(hw:Wf S)(a:Int):Wf (Sp.cJ S a).2:=by
 unfold Sp.cJ
 split
 ·rename_i s w hf
  split
  ·rename_i e
   subst e
   obtain⟨hn,hcase⟩:=Sp.jm hw hf rfl
   rcases hcase with ⟨c,l,k,h1,h2,h3,h4,h5,h6,h7⟩|⟨k,h1,h2,h3⟩
   ·rw[Int.toNat_natCast,h1]
    dsimp only
    rw[←h4]
    split
    ·exact hw.yX h1
    ·exact hw.rv rfl h2 (by simpa using h3) (.inr ⟨c,l,h1⟩)
   ·rw[Int.toNat_natCast,h1]
    exact hw.vf h1
  ·exact hw
 ·exact hw
end Go.Proofs.YtfepdmpplahloaaGreat
namespace Go.Proofs.YtfepdmpplahloaaGreat
open Go Go.Gl
variable{ρ0 ρ:FR}{L L':List aA}{Post:Value→List aA→Prop}{T:Tree}
theorem pV{α β:Type}{a b:α→Bool}{g:α→List β}(hab:∀x,a x=true→b x=true→False)(h0:∀x,a x=false→b x=false→g x=[]):∀l:List α,((l.filter a).flatMap g++(l.filter b).flatMap g).Perm (l.flatMap g)
 |[]=> .refl _
 |x::l=>by
  have ih:=pV hab h0 l
  cases ha:a x with
  |true=>
   have hb:b x=false:=by cases hb:b x with
    |false=>rfl
    |true=>exact(hab x ha hb).elim
   rw[List.filter_cons_of_pos ha,List.filter_cons_of_neg (by simp[hb]),List.flatMap_cons,List.flatMap_cons,List.append_assoc]
   exact ih.append_left _
  |false=>
   rw[List.filter_cons_of_neg (by simp[ha])]
   cases hb:b x with
   |true=>
    rw[List.filter_cons_of_pos hb,List.flatMap_cons,List.flatMap_cons]
    have:((l.filter a).flatMap g++(g x++(l.filter b).flatMap g)).Perm (g x++((l.filter a).flatMap g++(l.filter b).flatMap g)):=by
     rw[←List.append_assoc,←List.append_assoc]
     exact List.perm_append_comm.append_right _
    exact this.trans (ih.append_left _)
   |false=>
    rw[List.filter_cons_of_neg (by simp[hb]),List.flatMap_cons,h0 x ha hb]
    exact ih
def Pg.E8:Pg→Bool| .head _=>true|_=>false
def Sp.qi(pg:List Pg):List Nat:=(List.range pg.length).filter fun p=>(pg.getD p .free).E8
theorem Sp.lA{pg:List Pg}{p:Nat}:p∈Sp.qi pg↔∃k,pg[p]? =some (.head k):=by
 unfold Sp.qi
 rw[List.mem_filter,List.mem_range]
 constructor
 ·rintro⟨h1,h2⟩
  rw[List.getD_eq_getElem?_getD,List.getElem?_eq_getElem h1]at h2
  rw[List.getElem?_eq_getElem h1]
  revert h2
  generalize pg[p]=x
  intro h2
  cases x with
  |head k=>exact⟨k,rfl⟩
  |_=>cases h2
 ·rintro⟨k,h⟩
  exact⟨aV h,by rw[List.getD_eq_getElem?_getD,h];rfl⟩
def Sp.gE(pg:List Pg)(p:Nat):List Int:=Sp.gU p (pg.getD p .free)
def Sp.zu(x:Int×oO):List Int:=Sp.gU x.1.toNat (.small x.2.2.1 x.2.2.2)
theorem mb{α β:Type}{f:α→β}{l:List α}(h:(l.map f).Nodup):l.Nodup:=(List.pairwise_map.mp h).imp fun hab e=>hab (by rw[e])
theorem tX{pg:List Pg}{ls:List (Int×oO)}(hS:cx pg ls)(nS:(ls.map (·.1)).Nodup):(ls.flatMap Sp.zu).Perm ((Sp.cm pg).flatMap (Sp.gE pg)):=by
 have h1:(ls.map fun x=>(x.1,x.2.2)).Perm ((Sp.cm pg).map fun p:Nat=>((p:Int),match pg.getD p .free with |Pg.small c l=>(c,l)|_=>(0,[]))):=by
  rw[List.perm_ext_iff_of_nodup]
  ·rintro⟨i,c,l⟩
   rw[List.mem_map,List.mem_map]
   constructor
   ·rintro⟨⟨i',q,c',l'⟩,h1,h2⟩
    injection h2 with e1 e2
    dsimp only at e1 e2
    injection e2 with e2 e3
    subst e1;subst e2;subst e3
    obtain⟨h0,h2⟩:=(hS i' c' l').mp ⟨q,h1⟩
    refine⟨i'.toNat,Sp.eG.mpr ⟨c',l',h2⟩,?_⟩
    rw[fI h2]
    congr 1
    omega
   ·rintro⟨p,hp,e⟩
    obtain⟨c',l',h⟩:=Sp.eG.mp hp
    rw[fI h]at e
    injection e with e1 e2
    injection e2 with e2 e3
    subst e1;subst e2;subst e3
    obtain⟨q,hq⟩:=(hS p c' l').mpr ⟨by omega,by simpa using h⟩
    exact⟨_,hq,rfl⟩
  ·refine mb (f:=(·.1)) ?_
   rw[List.map_map];exact nS
  ·refine mb (f:=(·.1)) ?_
   rw[List.map_map]
   exact List.Pairwise.map (R:=(·<·)) (S:=(·≠·)) _ (fun a b h=>by simp only[Function.comp];omega) (Sp.gK pg)
 have e1:ls.flatMap Sp.zu=(ls.map fun x=>(x.1,x.2.2)).flatMap fun y=>Sp.gU y.1.toNat (.small y.2.1 y.2.2):=by rw[List.flatMap_map];rfl
 rw[e1]
 refine(h1.flatMap_right _).trans ?_
 rw[List.flatMap_map]
 have:∀l:List Nat,(∀p∈l,p∈Sp.cm pg)→(l.flatMap fun p:Nat=>Sp.gU (((p:Nat):Int)).toNat (.small (match pg.getD p .free with |Pg.small c l=>(c,l)|_=>(0,[])).1 (match pg.getD p .free with |Pg.small c l=>(c,l)|_=>(0,[])).2))=l.flatMap (Sp.gE pg):=by
  intro l
  induction l with
  |nil=>intro _;rfl
  |cons p l ih=>
   intro h
   rw[List.flatMap_cons,List.flatMap_cons,ih fun q hq=>h q (List.mem_cons_of_mem _ hq)]
   obtain⟨c',l',hp⟩:=Sp.eG.mp (h p List.mem_cons_self)
   unfold Sp.gE
   rw[fI hp,Int.toNat_natCast]
 rw[this _ fun p hp=>hp]
theorem ur{pg:List Pg}{ll:List (Int×Nat)}(hL:cG pg ll)(nL:(ll.map (·.1)).Nodup):(ll.map fun x=>x.1*64).Perm ((Sp.qi pg).flatMap (Sp.gE pg)):=by
 have h1:(ll.map (·.1)).Perm ((Sp.qi pg).map fun p:Nat=>(p:Int)):=by
  rw[List.perm_ext_iff_of_nodup nL]
  ·intro i
   rw[List.mem_map,List.mem_map]
   constructor
   ·rintro⟨⟨i',k⟩,h1,rfl⟩
    obtain⟨h0,h2⟩:=(hL i' k).mp h1
    exact⟨i'.toNat,Sp.lA.mpr ⟨k,h2⟩,by dsimp only;omega⟩
   ·rintro⟨p,hp,rfl⟩
    obtain⟨k,h⟩:=Sp.lA.mp hp
    exact⟨(p,k),(hL p k).mpr ⟨by omega,by simpa using h⟩,rfl⟩
  ·exact List.Pairwise.map (R:=(·<·)) (S:=(·≠·)) _ (fun a b h=>by omega) (List.Pairwise.filter _ List.pairwise_lt_range)
 have e1:(ll.map fun x=>x.1*64)=(ll.map (·.1)).map (·*64):=by simp
 rw[e1]
 refine(h1.map _).trans ?_
 rw[List.map_map]
 have:∀l:List Nat,(∀p∈l,p∈Sp.qi pg)→l.map ((fun x:Int=>x*64)∘fun p:Nat=>(p:Int))=l.flatMap (Sp.gE pg):=by
  intro l
  induction l with
  |nil=>intro _;rfl
  |cons p l ih=>
   intro h
   rw[List.map_cons,List.flatMap_cons,ih fun q hq=>h q (List.mem_cons_of_mem _ hq)]
   obtain⟨k,hp⟩:=Sp.lA.mp (h p List.mem_cons_self)
   unfold Sp.gE
   rw[fI hp]
   simp[Sp.gU]
 rw[this _ fun p hp=>hp]
theorem yi{S:aD}{ls:List (Int×oO)}{ll:List (Int×Nat)}(hS:cx S.pg ls)(nS:(ls.map (·.1)).Nodup)(hL:cG S.pg ll)(nL:(ll.map (·.1)).Nodup):(ls.flatMap Sp.zu++(ll.map fun x:Int×Nat=>x.1*64)).Perm (Sp.each S):=by
 refine((tX hS nS).append (ur hL nL)).trans ?_
 refine pV (fun p h1 h2=> ?_) (fun p h1 h2=> ?_) _
 ·revert h1 h2
  cases S.pg.getD p .free<;>simp[Pg.EI,Pg.E8]
 ·revert h1 h2
  unfold Sp.gE
  cases S.pg.getD p .free<;>simp[Pg.EI,Pg.E8,Sp.gU]
theorem Sp.rU{S:aD}(hw:Wf S){p:Nat}{a:Int}(h:a∈Sp.gE S.pg p):∃n:Nat,a=n∧n/64=p∧n<S.ws.length∧∃w,Sp.find S n=some (n,w)∧2≤w∧w≤1024∧n+w≤S.ws.length:=by
 have hlen:=hw.len
 unfold Sp.gE at h
 rcases Nat.lt_or_ge p S.pg.length with hp|hp
 rotate_left
 ·rw[List.getD_eq_getElem?_getD,List.getElem?_eq_none hp]at h;cases h
 have hpg:=kN hp
 revert h hpg
 generalize S.pg.getD p .free=x
 intro h hpg
 cases x with
 |small c l=>
  obtain⟨hc,hl⟩:=hw.small _ _ _ hpg
  simp only[Sp.gU,List.mem_filterMap,List.mem_range]at h
  obtain⟨k,hk,h⟩:=h
  split at h
  ·rename_i hb
   injection h with h
   obtain⟨f1,f2,f3⟩:=lH hc hk hl
   have e1:(p*64+k*Sp.sz c)/64=p:=by omega
   have e2:(p*64+k*Sp.sz c)%64=k*Sp.sz c:=by omega
   refine⟨p*64+k*Sp.sz c,h.symm,e1,by omega,Sp.sz c,?_,f2,by omega,by omega⟩
   rw[Sp.dy (by omega) (by rw[e1];exact hpg),e1,e2,Nat.mul_div_cancel _ (by omega),if_pos hb]
  ·cases h
 |head k=>
  obtain⟨k1,k2,k3,k4⟩:=hw.head _ _ hpg
  simp only[Sp.gU,List.mem_singleton]at h
  have e1:p*64/64=p:=by omega
  refine⟨p*64,h,e1,by omega,k*64,?_,by omega,by omega,by omega⟩
  rw[Sp.cO (by omega) (by rw[e1];intro c l hc;rw[hpg]at hc;cases hc),e1,Sp.nA hw hpg ⟨by omega,by omega⟩]
  rfl
 |_=>cases h
theorem Sp.cg{S:aD}{a:Int}:a∈Sp.each S↔∃p,p<S.pg.length∧a∈Sp.gE S.pg p:=by
 unfold Sp.each
 rw[List.mem_flatMap]
 constructor
 ·rintro⟨p,hp,h⟩;exact⟨p,by simpa using hp,h⟩
 ·rintro⟨p,hp,h⟩;exact⟨p,by simpa using hp,h⟩
theorem Sp.iL{S:aD}(hw:Wf S){a:Int}(h:a∈Sp.each S):∃n:Nat,a=n∧n<S.ws.length∧∃w,Sp.find S n=some (n,w)∧2≤w∧w≤1024∧n+w≤S.ws.length:=by
 obtain⟨p,_,hp⟩:=Sp.cg.mp h
 obtain⟨n,h1,_,h2,h3⟩:=Sp.rU hw hp
 exact⟨n,h1,h2,h3⟩
theorem Sp.hG{S:aD}(hw:Wf S):(Sp.each S).Pairwise (·<·):=by
 unfold Sp.each
 rw[List.pairwise_flatMap]
 constructor
 ·intro p hp
  unfold Sp.gU
  split
  ·rename_i c l hpg
   have hpl:p<S.pg.length:=by simpa using hp
   have:=kN hpl
   rw[hpg]at this
   have hc:=(hw.small _ _ _ this).1
   have hz:=Sp.cZ hc
   refine List.Pairwise.filterMap (R:=(·<·)) _ ?_ List.pairwise_lt_range
   intro a b hab x hx y hy
   split at hx
   ·split at hy
    ·simp at hx hy
     have:=Nat.mul_lt_mul_of_pos_right hab (show 0<Sp.sz c by omega)
     subst hx;subst hy
     omega
    ·cases hy
   ·cases hx
  ·exact List.pairwise_singleton _ _
  ·exact .nil
 ·refine List.pairwise_lt_range.imp fun{p q} hpq x hx y hy=> ?_
  obtain⟨n,h1,h2,_⟩:=Sp.rU hw hx
  obtain⟨m,g1,g2,_⟩:=Sp.rU hw hy
  omega
theorem Sp.CS{S:aD}(hw:Wf S)(p:Nat):(Sp.gE S.pg p).length≤32:=by
 unfold Sp.gE
 rcases Nat.lt_or_ge p S.pg.length with hp|hp
 ·have hpg:=kN hp
  revert hpg
  generalize S.pg.getD p .free=x
  intro hpg
  cases x with
  |small c l=>
   obtain⟨hc,hl⟩:=hw.small _ _ _ hpg
   unfold Sp.gU
   refine Nat.le_trans (List.length_filterMap_le _ _) ?_
   rw[List.length_range,hl]
   have hz:=Sp.cZ hc
   rcases hz with ⟨_,e⟩|⟨_,e⟩|⟨_,e⟩|⟨_,e⟩|⟨_,e⟩<;>rw[e]<;>decide
  |head k=>simp[Sp.gU]
  |_=>simp[Sp.gU]
 ·rw[List.getD_eq_getElem?_getD,List.getElem?_eq_none hp];simp[Sp.gU]
theorem nZ{α β:Type}{g:α→List β}{m:Nat}(h:∀x,(g x).length≤m):∀l:List α,(l.flatMap g).length≤l.length*m
 |[]=>by simp
 |x::l=>by
  rw[List.flatMap_cons,List.length_append,List.length_cons,Nat.add_mul]
  have:=nZ h l
  have:=h x
  omega
theorem Sp.cV{S:aD}(hw:Wf S):(Sp.each S).length≤8192:=by
 have:=nZ (Sp.CS hw) (List.range S.pg.length)
 have h2:=hw.gv
 rw[List.length_range]at this
 have e:Sp.each S=(List.range S.pg.length).flatMap (Sp.gE S.pg):=rfl
 rw[e]
 omega
end Go.Proofs.YtfepdmpplahloaaGreat
namespace Go.Proofs.YtfepdmpplahloaaGreat
open Go Go.Gl
variable{ρ0 ρ:FR}{L L':List aA}{Post:Value→List aA→Prop}{T:Tree}
def Sp.ov(p c:Nat)(l:List Bool)(q:Nat):List Int:=(List.range q).filterMap fun i=>if l.getD i false then some ((p*64+i*Sp.sz c:Nat):Int)else none
theorem Sp.zr(p c:Nat)(l:List Bool):Sp.ov p c l l.length=Sp.gU p (.small c l):=rfl
theorem Sp.ri{p c q k:Nat}{l:List Bool}(h:∀j,q≤j→j<k→l.getD j false≠true)(hqk:q≤k):Sp.ov p c l k=Sp.ov p c l q:=by
 obtain⟨d,rfl⟩:∃d,k=q+d:=⟨k-q,by omega⟩
 clear hqk
 induction d with
 |zero=>rfl
 |succ d ih=>
  have hf:l.getD (q+d) false=false:=by
   have:=h (q+d) (by omega) (by omega)
   cases hh:l.getD (q+d) false with
   |false=>rfl
   |true=>exact absurd hh this
  unfold Sp.ov at ih⊢
  rw[show q+(d+1)=q+d+1 by omega,List.range_succ,List.filterMap_append,ih fun j h1 h2=>h j h1 (by omega)]
  simp only[List.filterMap_cons,hf,List.filterMap_nil]
  simp
theorem Sp.zK{p c k:Nat}{l:List Bool}(h:l.getD k false=true):Sp.ov p c l (k+1)=Sp.ov p c l k++[((p*64+k*Sp.sz c:Nat):Int)]:=by
 unfold Sp.ov
 rw[List.range_succ,List.filterMap_append]
 simp only[List.filterMap_cons,h,List.filterMap_nil,if_true]
theorem Sp.zW(p c:Nat)(l:List Bool)(q:Nat):(Sp.ov p c l q).length≤q:=by
 unfold Sp.ov
 exact Nat.le_trans (List.length_filterMap_le _ _) (by simp)
theorem fx(p:Nat)(S:aD)(hw:Wf S):Gl.Spec ρ Tryz.prog 60 [.pointer (some ⟨p,0,none⟩)] [aF p S] RS
  fun r M=>r.n=(Sp.each S).length∧M=[aE r 1 ((Sp.each S).map i64),aF p S]:=by
 have hmost:=hw.gv
 have hel:=Sp.cV hw
 refine Spec.of (fun Q w' h=>F.space.bn.yj.calls (some ⟨p,0,none⟩) h) fun R=> ?_
 unfold F.space.bn.yj
 try simp only[aq,al]
 refine ak rfl (ah (aF.op tk fun pa pp ms ml ls ll hS hL nS nL=> ?_))
 have hperm:=yi hS nS hL nL
 have hpl:=hperm.length_eq
 rw[List.length_append,List.length_map]at hpl
 have hent:∀i q c l,(i,q,c,l)∈ls→0≤i∧i<256∧c<5∧l.length=64/Sp.sz c∧l.length≤32:=fun i q c l h=>by
  obtain⟨h0,h1⟩:=(hS i c l).mp ⟨q,h⟩
  obtain⟨h2,h3⟩:=hw.small _ _ _ h1
  have h4:=aV h1
  have hz:=Sp.cZ h2
  refine⟨h0,by omega,h2,h3,?_⟩
  rw[h3];rcases hz with ⟨_,e⟩|⟨_,e⟩|⟨_,e⟩|⟨_,e⟩|⟨_,e⟩<;>rw[e]<;>decide
 refine ai (k:= .map) (x:=some ms) (by rw[af]) tk rfl ?_
 refine uQ Di tk fun r=> ?_
 refine Tr.cq 1 ?_
 refine Tr.take (A:=star (ls.map lC)) tk ?_
 refine Tr.take (A:=aE ⟨none,0,0⟩ 1 []) tk ?_
 refine aP (fun m u M=>(fun s:ay=>∃rem cur xs,m=rem.length∧M=aE s 1 (xs.map i64)::star (ls.map lC)::MI ms r fS ls rem cur::aw p [.pointer (some ⟨pa,0,none⟩),.pointer (some ⟨pp,0,none⟩),.map (some ms),.map (some ml)]::bE pa S.ws::cc pp (S.pg.map Pg.taken)::IM ml fL ll::R∧
   s.n=xs.length∧(∀x∈rem,x∈ls)∧(xs++rem.flatMap Sp.zu).Perm (ls.flatMap Sp.zu)) u.1) ls.length ?_ ?_
 ·exact⟨ls,none,[],rfl,rfl,rfl,fun x hx=>hx,.refl _⟩
 ·rintro m ⟨(s:ay),⟨⟩⟩ M ⟨rem,cur,xs,rfl,rfl,hn,hsub,hpm⟩ X hX
  have hpm':=hpm.length_eq
  rw[List.length_append]at hpm'
  dsimp only at*
  refine vJ (kv:= .ptr) (g:=gS) Ds tk (fun h0=> ?_) (fun k v r1 r2 hr=> ?_)
  ·--the larger ones
   subst h0
   refine MI.over tk (ah ?_)
   refine ai (k:= .map) (x:=some ml) (by rw[af]) tk rfl ?_
   refine uQ ER tk fun r2=> ?_
   rw[List.flatMap_nil,List.append_nil]at hpm
   refine Tr.take (A:=aE s 1 (xs.map i64)) tk ?_
   refine aP (fun m u M=>(fun s:ay=>∃rem cur ys,m=rem.length∧M=aE s 1 (ys.map i64)::MI ml r2 fL ll rem cur::IM ms fS ls::star (ls.map lC)::aw p [.pointer (some ⟨pa,0,none⟩),.pointer (some ⟨pp,0,none⟩),.map (some ms),.map (some ml)]::bE pa S.ws::cc pp (S.pg.map Pg.taken)::R∧
     s.n=ys.length∧(∀x∈rem,x∈ll)∧(ys++rem.map fun x:Int×Nat=>x.1*64).Perm (xs++ll.map fun x:Int×Nat=>x.1*64)) u.1) ll.length ?_ ?_
   ·exact⟨ll,none,xs,rfl,rfl,hn,fun x hx=>hx,.refl _⟩
   ·rintro m ⟨(s:ay),⟨⟩⟩ M ⟨rem,cur,ys,rfl,rfl,hn2,hsub2,hpm2⟩ X hX
    have hpm2':=hpm2.length_eq
    rw[List.length_append,List.length_append,List.length_map,List.length_map]at hpm2'
    dsimp only at*
    refine vJ (kv:= .int .i64) (g:=gL) EH tk (fun h0=> ?_) (fun k v r3 r4 hr=> ?_)
    ·subst h0
     rw[List.map_nil,List.append_nil]at hpm2
     have hall:ys.Perm (Sp.each S):=hpm2.trans ((hpm.append_right _).trans hperm)
     have hyl:=hall.length_eq
     refine MI.over tk ?_
     refine ae (qF s ys (by omega)) ag ?_
     rintro x M rfl
     try simp only[aq,al]
     have hso:Sp.sort ys=Sp.each S:=by
      rw[Sp.kP hall]
      exact Sp.oD ((Sp.hG hw).imp fun h=>by omega)
     rw[hso]
     refine Tr.close (A:=aF p S) (M:=[aw p [.pointer (some ⟨pa,0,none⟩),.pointer (some ⟨pp,0,none⟩),.map (some ms),.map (some ml)],bE pa S.ws,cc pp (S.pg.map Pg.taken),IM ms fS ls,IM ml fL ll,star (ls.map lC)]) ag (aF.cl (p:=p) (pa:=pa) (pp:=pp) (ms:=ms) (ml:=ml) hS hL) ?_
     exact aa (x:=(s:ay)) rfl ⟨by rw[hn2,hyl],rfl⟩ ag aB
    ·refine vK (kv:= .int .i64) (g:=gL) EH tk ?_
     have hkv:(k,v)∈ll:=hsub2 _ (by rw[hr];simp)
     obtain⟨hk0,hkp⟩:=(hL k v).mp hkv
     have hk:=aV hkp
     refine ax fun b=> ?_
     dsimp only
     rw[wrap64 (n:=k*64) (by omega) (by omega)]
     refine df (s:=s) (x:=⟨some ⟨b,0,none⟩,1,1⟩) (ys:=[i64 (k*64)]) ca tk (Rd.cl tk rfl rfl) rfl (by dsimp only;omega) (by dsimp only;omega) fun t ht=> ?_
     have e:ys.map i64++[i64 (k*64)]=(ys++[k*64]).map i64:=by simp
     rw[e]
     refine Tr.drop (A:=aw b [i64 (k*64)]) tk ?_
     refine hX (r3++r4).length _ _ (by rw[hr];simp) ⟨r3++r4,_,ys++[k*64],rfl,rfl,by dsimp only;rw[ht,hn2];simp,fun x hx=>hsub2 x ?_,?_⟩
     ·rw[hr];simp at hx⊢;rcases hx with h|h<;>simp[h]
     ·refine List.Perm.trans ?_ hpm2
      rw[hr,List.append_assoc]
      refine List.Perm.append_left _ ?_
      simp only[List.map_append,List.map_cons,List.singleton_append]
      exact List.perm_middle.symm
  ·obtain⟨q,c,l⟩:=v
   refine vK (kv:= .ptr) (g:=gS) Ds tk ?_
   have hkv:(k,q,c,l)∈ls:=hsub _ (by rw[hr];simp)
   obtain⟨hk0,hk,hc,hl,hl32⟩:=hent k q c l hkv
   have hz:=Sp.cZ hc
   obtain⟨pn,rfl⟩:∃n:Nat,k=n:=⟨k.toNat,by omega⟩
   obtain⟨l1,l2,hl12⟩:∃l1 l2,ls=l1++((pn:Int),q,c,l)::l2:=List.append_of_mem hkv
   rw[hr,List.flatMap_append,List.flatMap_cons]at hpm
   have hatl:(Sp.zu ((pn:Int),q,c,l))=Sp.gU pn (.small c l):=by unfold Sp.zu;simp
   rw[hatl]at hpm
   have hsz:xs.length+(ls.flatMap Sp.zu).length≤20000:=by
    have:rem.flatMap Sp.zu=r1.flatMap Sp.zu++(Sp.gU pn (.small c l)++r2.flatMap Sp.zu):=by rw[hr,List.flatMap_append,List.flatMap_cons,hatl]
    omega
   dsimp only[gS]
   refine ah ?_
   subst hl12
   refine Tr.Dy (P:=lC) tk ?_
   refine bF.op (p:=q) (l:=l) (w:=(Sp.sz c:Int)) .here fun b=> ?_
   refine ai (k:= .ptr) (b:=q) (x:=some ⟨b,0,none⟩) (by rw[af]) tk rfl ?_
   refine ae (eI b l 0 true (by omega)) ag ?_
   rintro x M ⟨rfl,rfl⟩
   try simp only[aq,al]
   refine Tr.close (M:=[aw q [.pointer (some ⟨b,0,none⟩),i64 (Sp.sz c)],aX b l]) ag (bF.cl (p:=q)) ?_
   refine Tr.take (A:=aE s 1 (xs.map i64)) tk ?_
   refine aP (fun n u M=>(fun(t:ay) (i:Int)=>∃(qn:Nat) (ys:List Int),n=l.length-qn∧i=Sp.next l qn true∧ys=xs++Sp.ov pn c l qn∧qn≤l.length∧t.n=ys.length∧
     M=aE t 1 (ys.map i64)::bF q l (Sp.sz c)::star ((l1++l2).map lC)::MI ms r fS (l1++((pn:Int),q,c,l)::l2) (r1++r2) (some ((pn:Int),q,c,l))::aw p [.pointer (some ⟨pa,0,none⟩),.pointer (some ⟨pp,0,none⟩),.map (some ms),.map (some ml)]::bE pa S.ws::cc pp (S.pg.map Pg.taken)::IM ml fL ll::R) u.1 u.2.1) l.length ?_ ?_
   ·exact⟨0,xs,rfl,rfl,by simp[Sp.ov],by omega,hn,rfl⟩
   ·rintro n ⟨(t:ay),(i:Int),⟨⟩⟩ M ⟨qn,ys,rfl,hi,hys,hql,htn,rfl⟩ Y hY
    have hyl:ys.length≤30000:=by
     rw[hys,List.length_append]
     have:=Sp.zW pn c l qn
     omega
    dsimp only at*
    rcases Sp.ft l true qn with ⟨g1,g2⟩|⟨kk,g1,g2,g3,g4,g5⟩
    ·refine ak (decide_eq_false (show¬(i:Int)≥0 by rw[hi,g1];decide)) ?_
     refine Tr.close (M:=[bF q l (Sp.sz c),star ((l1++l2).map lC)]) ag (eW (pn:Int) (q:=q) (c:=c) (l:=l)) ?_
     refine Tr.take (A:=aE t 1 (ys.map i64)) tk ?_
     refine hX (r1++r2).length _ _ (by rw[hr];simp) ⟨r1++r2,_,ys,rfl,rfl,htn,fun x hx=>hsub x ?_,?_⟩
     ·rw[hr];simp at hx⊢;rcases hx with h|h<;>simp[h]
     ·refine List.Perm.trans ?_ hpm
      rw[hys,←Sp.ri (p:=pn) (c:=c) (q:=qn) (k:=l.length) (l:=l) (fun j h1 h2=>g2 j h1 h2) hql,Sp.zr,List.append_assoc,List.flatMap_append]
      refine List.Perm.append_left _ ?_
      rw[←List.append_assoc,←List.append_assoc]
      exact List.perm_append_comm.append_right _
    ·refine aH (decide_eq_true (show(i:Int)≥0 by rw[hi,g1];omega)) ?_
     refine ae (dz q l (Sp.sz c)) ag ?_
     rintro x M ⟨rfl,rfl⟩
     try simp only[aq,al]
     refine ax fun b2=> ?_
     rw[g1]at hi
     subst hi
     obtain⟨f1,f2,f3⟩:=lH hc g3 hl
     have e1:(kk:Int)*(Sp.sz c:Int)=((kk*Sp.sz c:Nat):Int):=by simp
     rw[e1]
     have hone:=Sp.zK (p:=pn) (c:=c) g4
     have hskip:=Sp.ri (p:=pn) (c:=c) (q:=qn) (k:=kk) (l:=l) g5 g2
     rw[hskip]at hone
     generalize kk*Sp.sz c=dd at f1 hone⊢
     rw[wrap64 (n:=(dd:Int)) (by omega) (by omega),wrap64 (n:=(pn:Int)*64) (by omega) (by omega),wrap64 (n:=(pn:Int)*64+(dd:Int)) (by omega) (by omega)]
     refine df (s:=t) (x:=⟨some ⟨b2,0,none⟩,1,1⟩) (ys:=[i64 ((pn:Int)*64+(dd:Int))]) ca tk (Rd.cl tk rfl rfl) rfl (by dsimp only;omega) (by dsimp only;omega) fun t2 ht2=> ?_
     have e:ys.map i64++[i64 ((pn:Int)*64+(dd:Int))]=(ys++[((pn*64+dd:Nat):Int)]).map i64:=by simp
     rw[e]
     refine Tr.drop (A:=aw b2 [i64 ((pn:Int)*64+(dd:Int))]) tk ?_
     refine ah ?_
     refine bF.op (p:=q) (l:=l) (w:=(Sp.sz c:Int)) tk fun b=> ?_
     refine ai (k:= .ptr) (b:=q) (x:=some ⟨b,0,none⟩) (by rw[af]) tk rfl ?_
     have w1:IntKind.wrap .i64 ((kk:Int)+1)=((kk+1:Nat):Int):=by rw[wrap64 (by omega) (by omega)];simp
     rw[w1]
     refine ae (eI b l ((kk+1:Nat):Int) true (by omega)) ag ?_
     rintro x M ⟨rfl,rfl⟩
     try simp only[aq,al]
     refine Tr.close (M:=[aw q [.pointer (some ⟨b,0,none⟩),i64 (Sp.sz c)],aX b l]) ag (bF.cl (p:=q)) ?_
     refine Tr.take (A:=aE t2 1 ((ys++[((pn*64+dd:Nat):Int)]).map i64)) tk ?_
     exact hY (l.length-(kk+1)) _ _ (by omega) ⟨kk+1,ys++[((pn*64+dd:Nat):Int)],rfl,rfl,by rw[hys,hone,List.append_assoc],by omega,by dsimp only;rw[ht2,htn];simp,rfl⟩
def Sp.bj(S:aD)(a:Int):Int:=match Sp.find S a with |some (_,w)=>(w:Int)|none=>0
theorem oZ(p:Nat)(S:aD)(hw:Wf S):Gl.Spec ρ Tryz.prog 31 [.pointer (some ⟨p,0,none⟩)] [aF p S] R1
  fun r M=>r=((Sp.each S).map (Sp.bj S)).sum∧M=[aF p S]:=by
 have hel:=Sp.cV hw
 refine Spec.of (fun Q w' h=>F.space.bn.Used.calls (some ⟨p,0,none⟩) h) fun R=> ?_
 unfold F.space.bn.Used
 try simp only[aq,al]
 refine ae (fx p S hw) ag ?_
 rintro s M ⟨hs,rfl⟩
 try simp only[aq,al]
 refine Tr.cX (s:=s) tk fun ρ' hle hro=> ?_
 have hb:∀a∈Sp.each S,0≤Sp.bj S a∧Sp.bj S a≤1024:=fun a ha=>by
  obtain⟨n,rfl,_,w,h1,h2,h3,_⟩:=Sp.iL hw ha
  unfold Sp.bj;rw[h1];dsimp only;omega
 have hsum:∀k,k≤(Sp.each S).length→0≤(((Sp.each S).take k).map (Sp.bj S)).sum∧(((Sp.each S).take k).map (Sp.bj S)).sum≤1024*k:=by
  intro k
  induction k with
  |zero=>intro _;simp
  |succ k ih=>
   intro hk
   have:=ih (by omega)
   have h2:=hb ((Sp.each S).getD k 0) (by rw[List.getD_eq_getElem?_getD,List.getElem?_eq_getElem (by omega)];exact List.getElem_mem _)
   rw[aJ 0 (by omega),List.map_append,List.sum_append]
   simp only[List.map_cons,List.map_nil,List.sum_cons,List.sum_nil]
   omega
 refine aP (fun n u M=>(fun c i:Int=>M=aF p S::R∧0≤i∧i≤(Sp.each S).length∧n=(Sp.each S).length-i.toNat∧c=(((Sp.each S).take i.toNat).map (Sp.bj S)).sum) u.1 u.2.1) (Sp.each S).length ?_ ?_
 ·exact⟨rfl,by simp,by simp,by simp,by simp⟩
 ·rintro n ⟨(c:Int),(i:Int),⟨⟩⟩ M ⟨rfl,h0,h1,rfl,hc⟩ X hX
  dsimp only at*
  refine aj (fun h=> ?_) (fun h=> ?_)
  ·replace h:i<(s.n:Int):=of_decide_eq_true h
   have hi:i.toNat<(Sp.each S).length:=by omega
   refine bJ hro h0 h fun a0 ha=> ?_
   refine bZ (j:=i.toNat) (x:=(Sp.each S).getD i.toNat 0) ha hro (by rintro b o rfl;simp[af]) (getD_map hi) ?_
   refine ae (lM p S hw ((Sp.each S).getD i.toNat 0)) ag ?_
   rintro x M ⟨rfl,rfl⟩
   try simp only[aq,al]
   have e:(Sp.found (Sp.find S ((Sp.each S).getD i.toNat 0))).2.1=Sp.bj S ((Sp.each S).getD i.toNat 0):=by
    unfold Sp.bj Sp.found
    cases Sp.find S ((Sp.each S).getD i.toNat 0)<;>rfl
   rw[e]
   have hs1:=hsum i.toNat (by omega)
   have hs2:=hsum (i.toNat+1) (by omega)
   have hstep:(((Sp.each S).take (i.toNat+1)).map (Sp.bj S)).sum=c+Sp.bj S ((Sp.each S).getD i.toNat 0):=by
    rw[aJ 0 hi,List.map_append,List.sum_append,hc];simp
   rw[hstep]at hs2
   rw[wrap64 (n:=c+Sp.bj S ((Sp.each S).getD i.toNat 0)) (by omega) (by omega),wrap64 (n:=i+1) (by omega) (by omega)]
   refine hX ((Sp.each S).length-(i+1).toNat) _ _ (by omega) ⟨rfl,by dsimp only;omega,by dsimp only;omega,rfl,?_⟩
   dsimp only
   rw[show(i+1).toNat=i.toNat+1 by omega,hstep]
  ·replace h:¬i<(s.n:Int):=of_decide_eq_false h
   rw[List.take_of_length_le (by omega)]at hc
   rw[hc]
   exact aa (x:=((Sp.each S).map (Sp.bj S)).sum) rfl ⟨rfl,rfl⟩ ag aB
end Go.Proofs.YtfepdmpplahloaaGreat
