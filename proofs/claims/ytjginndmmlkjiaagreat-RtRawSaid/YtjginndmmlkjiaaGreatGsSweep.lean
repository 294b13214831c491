import Derived.Test.YtjginndmmlkjiaaGreatGsSpace4
set_option linter.unusedSimpArgs false
set_option linter.unusedVariables false
namespace Go.Proofs.YtjginndmmlkjiaaGreat
section
open Go Go.Gl
variable{ρ0 ρ:FR}{L L':List aD}{Post:Value→List aD→Prop}{T:Tree}
def Sp.L5(pg:List Pg)(i c:Nat)(l:List Bool):Prop:=pg[i]? =some (.small c l)∨(pg[i]? =some .free∧l=List.replicate (64/Sp.sz c) false∧Sp.run (pg.map Pg.taken) 1=some i)
theorem Sp.nQ{S:aJ}(hw:Wf S){w:Int}(hb:Sp.au w≠0):
  Sp.place S.pg w=(0,3,S.pg)∨
  (∃i k:Nat,Sp.cls w<0∧Sp.pj w=k∧1≤k∧k≤16∧Sp.au w=((k*64:Nat):Int)∧i+k≤S.pg.length∧(∀j:Nat,i≤j→j<i+k→S.pg[j]? =some .free)∧Sp.place S.pg w=(((i*64:Nat):Int),0,Sp.kF S.pg i k))∨
  (∃(c i k:Nat) (l:List Bool),Sp.cls w=c∧c<5∧Sp.au w=(Sp.sz c:Int)∧i<S.pg.length∧Sp.L5 S.pg i c l∧l.length=64/Sp.sz c∧k<l.length∧l.getD k false=false∧
   Sp.place S.pg w=(((i*64+k*Sp.sz c:Nat):Int),0,S.pg.set i (.small c (l.set k true)))):=by
 by_cases h:Sp.cls w<0
 ·obtain⟨k1,k2,k3⟩:=Sp.sR hb h;obtain⟨k,hk⟩:∃k:Nat,Sp.pj w=k:=⟨(Sp.pj w).toNat,ae⟩;have hpl:Sp.place S.pg w=(match Sp.run (S.pg.map Pg.taken) k with |some p=>(((p*64:Nat):Int),0,Sp.kF S.pg p k)|none=>(0,3,S.pg)):=by unfold Sp.place;grind
  cases hr:Sp.run (S.pg.map Pg.taken) k with
  |none=>grind
  |some i=>obtain⟨hi,hfree⟩:=lq hr;grind
 ·have hcc:=Sp.kX w;obtain⟨c,hc⟩:∃c:Nat,Sp.cls w=c:=⟨(Sp.cls w).toNat,ae⟩;have hc5:c<5:=by omega
  have hz:=Sp.eH hc5;have hblk:Sp.au w=(Sp.sz c:Int):=by unfold Sp.au;rw[if_pos ae,hc,Int.toNat_natCast,Sp.pG hc5]
  have h32:0<64/Sp.sz c:=by grind
  have hpl:Sp.place S.pg w=(match Sp.jY S.pg c with
   |some p=>Sp.cO S.pg p c (Sp.blocks S.pg p)
   |none=>(match Sp.run (S.pg.map Pg.taken) 1 with
    |some p=>Sp.cO S.pg p c (List.replicate (64/Sp.sz c) false)
    |none=>(0,3,S.pg))):=by unfold Sp.place;rw[if_neg h,hc,Int.toNat_natCast];rfl
  cases ho:Sp.jY S.pg c with
  |some i=>
   rw[ho]at hpl;obtain⟨l,hp,hcnt⟩:=Sp.vb ho;obtain⟨k,g1,g2,g3⟩:=jf hcnt;have hbl:Sp.blocks S.pg i=l:=by unfold Sp.blocks;rw[hp]
   refine .inr (.inr ⟨c,i,k,l,hc,hc5,hblk,cf hp,.inl hp,(hw.small _ _ _ hp).2,g2,g3,?_⟩);rw[hpl];unfold Sp.cO;simp_all
  |none=>
   cases hr:Sp.run (S.pg.map Pg.taken) 1 with
   |none=>grind
   |some i=>obtain⟨hi,hfree⟩:=lq hr;obtain⟨k,g1,g2,g3⟩:=tR h32;refine .inr (.inr ⟨c,i,k,List.replicate _ false,hc,hc5,hblk,ae,.inr ⟨hfree i ae ae,rfl,hr⟩,bu,g2,g3,?_⟩);rw[hpl];unfold Sp.cO;simp_all
theorem m9{c k n:Nat}(hc:c<5)(hk:k<n)(hn:n=64/Sp.sz c):k*Sp.sz c+Sp.sz c≤64∧2≤Sp.sz c∧Sp.sz c≤32:=by have hz:=Sp.eH hc;grind
theorem Sp.rp{S:aJ}(hw:Wf S){w:Int}(hb:Sp.au w≠0):Sp.place S.pg w=(0,3,S.pg)∨
  ((Sp.place S.pg w).2.1=0∧∃a n:Nat,(Sp.place S.pg w).1=a∧Sp.au w=n∧2≤n∧n≤1024∧a+n≤S.ws.length):=by
 have hl:=hw.len;rcases Sp.nQ hw hb with h|⟨i,k,_,_,h1,h2,h3,h4,_,h⟩|⟨c,i,k,l,_,h1,h2,h3,_,h5,h6,_,h⟩;·exact .inl h
 ·rw[h];exact .inr ⟨rfl,i*64,k*64,rfl,h3,ae,ae,ae⟩
 ·obtain⟨f1,f2,f3⟩:=m9 h1 h6 h5;rw[h];exact .inr ⟨rfl,i*64+k*Sp.sz c,Sp.sz c,rfl,h2,f2,ae,ae⟩
theorem y7(p:Nat)(S:aJ)(hw:Wf S)(w:Int):Gl.Spec ρ Zp 272 [pA p,i64 w] [aP p S] P2
  fun r M=>r=((Sp.alloc S w).1,(Sp.alloc S w).2.1,())∧M=[aP p (Sp.alloc S w).2.2]:=by
 have hmost:=hw.fF;have hlen:=hw.len;refine So (F.space.aV.Alloc.calls _ w) fun R=>cE (Bj w)<|ak rfl (ag (fun h=>?_) (fun h=>?_))
 ·replace h:Sp.au w=0:=by simpa using h
  have e:Sp.alloc S w=(0,1,S):=by unfold Sp.alloc;rw[if_pos h]
  rw[e];exact rT
 ·replace h:¬Sp.au w=0:=by simpa using h
  apply cE (yp p S hw w h);rcases Sp.rp hw h with hp|⟨hp,a,n,ha,hn,n1,n2,n3⟩
  ·have e:Sp.alloc S w=(0,3,S):=by unfold Sp.alloc;rw[if_neg h,hp];rfl
   rw[e,hp];exact bT<|rT
  ·have e:Sp.alloc S w=((a:Int),0,⟨Sp.iu S.ws a n,(Sp.place S.pg w).2.2⟩):=by unfold Sp.alloc;grind
   rw[e,hp,ha];refine ak rfl (af (aP.op tk fun pa pp ms ml ls ll hS hL nS nL=>?_));refine iL ?_;rw[hn];apply cE (AA _ S.ws a _ ae ae ae ae);refine tC (aP.cl (S:=⟨Sp.iu _ a n,(Sp.place _ w).2.2⟩) hS hL) ?_;exact rT
theorem lY{ws:List Int}{i n:Nat}(h:i+n≤ws.length):(Sp.iu ws i n).length=ws.length:=by simp[Sp.iu];omega
theorem lN{pg:List Pg}{i j:Nat}{x:Pg}(h:i<pg.length):(pg.set i x)[j]? =if i=j then some x else pg[j]? :=by grind
theorem Wf.wi{S:aJ}(hw:Wf S){i c:Nat}{l:List Bool}{ws:List Int}(hws:ws.length=S.ws.length)(hc:c<5)(hl:l.length=64/Sp.sz c)(hp:S.pg[i]? =some .free∨∃c' l',S.pg[i]? =some (.small c' l')):Wf ⟨ws,S.pg.set i (.small c l)⟩:=by
 have hi:i<S.pg.length:=by grind
 have nr:S.pg[i]? ≠some .res:=by grind
 refine⟨by simp[hws,hw.len],by simp[hw.fF],by simp[hw.pos],?_,?_,?_,?_⟩
 ·intro j;rw[lN hi];split;·rename_i e;subst e;simp only[reduceCtorEq,Option.some.injEq,false_iff];intro h;exact nr ((hw.res i).mpr h)
  ·exact hw.res j
 ·intro j c' l' h;rw[lN hi]at h;split at h;·grind
  ·exact hw.small j _ _ h
 ·intro j k h;rw[lN hi]at h;split at h;·cases h
  ·obtain⟨h1,h2,h3,h4⟩:=hw.head j k h;grind
 ·intro j h;rw[lN hi]at h;split at h;·cases h
  ·obtain⟨j',k,h1,h2⟩:=hw.tail j h;grind
theorem Wf.Dr{S:aJ}(hw:Wf S){i k:Nat}{ws:List Int}(hws:ws.length=S.ws.length)(hk1:1≤k)(hk:k≤16)(hi:i+k≤S.pg.length)(hfree:∀j:Nat,i≤j→j<i+k→S.pg[j]? =some .free):Wf ⟨ws,Sp.kF S.pg i k⟩:=by
 refine⟨by simp[hws,hw.len,jR],by simp[hw.fF,jR],by simp[hw.pos,jR],?_,?_,?_,?_⟩
 ·intro j;by_cases hj:i≤j∧j<i+k
  ·have hj0:j≠0:=fun e=>by have:=(hw.res j).mpr e;grind
   rw[dL,if_pos ae];grind
  ·rw[jd hk1 hj];exact hw.res j
 ·intro j c l h;by_cases hj:i≤j∧j<i+k;·rw[dL,if_pos ae]at h;grind
  ·rw[jd hk1 hj]at h;exact hw.small j c l h
 ·intro j k' h;rw[jR];by_cases hj:i≤j∧j<i+k
  ·rw[dL,if_pos ae]at h;split at h;·rename_i e;subst e;injection h with h;injection h with h;subst h;refine⟨hk1,hk,hi,fun j' g1 g2=>?_⟩;rw[dL,if_pos ae,if_neg ae,if_pos ⟨g1,g2⟩]
   grind
  ·rw[jd hk1 hj]at h;obtain⟨h1,h2,h3,h4⟩:=hw.head j k' h;refine⟨h1,h2,h3,fun j' g1 g2=>?_⟩;have:=h4 j' g1 g2;by_cases hj':i≤j'∧j'<i+k;·grind
   ·rw[jd hk1 hj'];exact this
 ·intro j h;by_cases hj:i≤j∧j<i+k
  ·rw[dL,if_pos ae]at h;split at h;·cases h
   ·exact⟨i,k,by rw[dL,if_pos ae,if_pos rfl],ae,ae⟩
  ·rw[jd hk1 hj]at h;obtain⟨j',k',h1,h2⟩:=hw.tail j h;refine⟨j',k',?_,h2⟩;by_cases hj':i≤j'∧j'<i+k;·grind
   ·rw[jd hk1 hj'];exact h1
theorem Sp.yA{S:aJ}(hw:Wf S)(w:Int):Wf (Sp.alloc S w).2.2:=by
 unfold Sp.alloc;split;·exact hw
 ·rename_i hb;split
  ·rename_i h0;rcases Sp.rp hw hb with hp|⟨_,a,n,ha,hn,n1,n2,n3⟩;·rw[hp]at h0;cases h0
   ·have hcl:(Sp.iu S.ws (Sp.place S.pg w).1.toNat (Sp.au w).toNat).length=S.ws.length:=by rw[ha,hn,Int.toNat_natCast,Int.toNat_natCast];exact lY n3
    rcases Sp.nQ hw hb with h|⟨i,k,_,_,h1,h2,h3,h4,h5,h⟩|⟨c,i,k,l,_,h1,h2,h3,h4,h5,h6,_,h⟩;·rw[h]at h0;cases h0
    ·have e:(Sp.place S.pg w).2.2=Sp.kF S.pg i k:=by rw[h]
     rw[e];exact hw.Dr hcl h1 h2 h4 h5
    ·have e:(Sp.place S.pg w).2.2=S.pg.set i (.small c (l.set k true)):=by rw[h]
     rw[e];apply hw.wi hcl h1 (by simpa using h5);rcases h4 with h4|⟨h4,_⟩;·grind
     ·exact .inl h4
  ·exact hw
theorem Sp.l5{S:aJ}(hw:Wf S){n s w:Nat}(h:Sp.find S n=some (s,w))(e:s=n):
  n<S.ws.length∧((∃c l k,S.pg[n/64]? =some (.small c l)∧c<5∧l.length=64/Sp.sz c∧k=n%64/Sp.sz c∧l.getD k false=true∧n=n/64*64+k*Sp.sz c∧w=Sp.sz c)∨
   ∃k,S.pg[n/64]? =some (.head k)∧n=n/64*64∧w=k*64):=by
 have hn:n<S.ws.length:=by
  rcases Nat.lt_or_ge n S.ws.length with c|c;·exact c
  ·rw[Sp.iH ae]at h;cases h
 refine⟨hn,?_⟩;by_cases hsm:∃c l,S.pg[n/64]? =some (.small c l)
 ·obtain⟨c,l,hsm⟩:=hsm;rw[Sp.gn hn hsm]at h;split at h;·obtain⟨hc,hll⟩:=hw.small _ _ _ hsm;grind
  ·cases h
 ·have hns:∀c l,S.pg[n/64]? ≠some _:=fun c l h=>hsm ⟨c,l,h⟩;rw[Sp.fb hn hns]at h;cases ho:Sp.own S.pg (n/64)with
  |none=>rw[ho]at h;cases h
  |some x=>rw[ho]at h;obtain⟨g1,g2,g3⟩:=Sp.vr ho;grind
theorem Bt(p:Nat)(S:aJ)(hw:Wf S)(a:Int):Gl.Spec ρ Zp 218 [pA p,i64 a] [aP p S] R1
  fun r M=>r=(Sp.dH S a).1∧M=[aP p (Sp.dH S a).2]:=by
 have hmost:=hw.fF;have hlen:=hw.len;refine So (F.space.aV.yi.calls _ a) fun R=>cE (nC p S hw a) ?_;cases hf:Sp.find S a with
 |none=>
  have e:Sp.dH S a=(2,S):=by unfold Sp.dH;rw[hf]
  rw[e];exact bT<|rT
 |some x=>
  obtain⟨s,w⟩:=x;refine ak rfl (ag (fun h=>?_) (fun h=>?_))
  ·have h:¬s=a:=by simpa[Sp.found]using h
   have e:Sp.dH S a=(2,S):=by unfold Sp.dH;grind
   rw[e];exact rT
  ·have h:s=a:=by simpa[Sp.found]using h
   subst h;obtain⟨hn,hcase⟩:=Sp.l5 hw hf rfl;have hp:s/64<S.pg.length:=by omega
   refine bm bd (af (aP.op tk fun pa pp ms ml ls ll hS hL nS nL=>?_));refine iL ?_;rw[F8,bG (n:=((s/64:Nat):Int))];apply qN JR uI LU KM tk;have hp0:1≤s/64:=by
    rcases Nat.eq_zero_or_pos (s/64)with h0|h0;·have:=(hw.res _).mpr h0;grind
    ·exact h0
   rcases hcase with ⟨c,l,k,h1,h2,h3,h4,h5,h6,h7⟩|⟨k,h1,h2,h3⟩
   ·obtain⟨q,hq⟩:=hS.get nS h1;have e:Sp.dH S s=(0,⟨S.ws,S.pg.set (s/64) (if(l.set k false).count true=0 then .free else .small c (l.set k false))⟩):=by unfold Sp.dH;grind
    rw[e,hq];have hz:=Sp.eH h2;have hl32:(l.set k false).length≤32:=by grind
    have hset:=hS.set nS (c:=c) (q:=q) (l:=l.set k false) hp;obtain⟨l1,l2,hl12,has,hdel⟩:=lD hq;rw[has]at hset;subst hl12;refine ak rfl (bm bd ?_);refine Tr.HA tk ?_;refine ai (iB q l (Sp.sz c)) (aI.cons .here .nil) ?_;rintro x M ⟨rfl,rfl⟩;apply bm ae;rw[EK,JI,←h4];have hk64:k≤64:=by grind
    rw[bG (n:=(k:Int))];refine ai (Am q l _ k h5) (aI.cons .here .nil) ?_;rintro x M ⟨rfl,rfl⟩;refine bF<|ai (yZ q _ _ hl32) (aI.cons .here .nil) ?_;rintro x M ⟨rfl,rfl⟩;refine ag (fun h8=>?_) (fun h8=>?_)
    ·have h8:¬(l.set k false).count true=0:=by simpa using h8
     rw[if_neg h8];refine Tr.close ar (jJ ((s/64:Nat):Int))<|Tr.imp (A':=IM _ fS (l1++(((s/64:Nat):Int),q,c,l.set k false)::l2)) tk (IM.ghost (by simp[fS])) ?_;have htk:S.pg.map Pg.taken=(S.pg.set (s/64) (.small c (l.set k false))).map Pg.taken:=by
      rw[rA hp];refine pU (by rw[Sp.q8]) fun j hj=>?_;rw[Sp.qI hj];split
      ·have:j=s/64:=by omega
       subst this;rw[fz,mV h1];rfl
      ·rfl
     rw[htk];have hL2:fj (S.pg.set _ (.small c (l.set k false))) ll:=hL.same (k8 (fun k h=>by rw[h1]at h;cases h) (fun k h=>by cases h));refine tC (aP.cl (S:=⟨S.ws,S.pg.set _ _⟩) hset hL2) ?_;exact rT
    ·have h8:(l.set k false).count true=0:=by simpa using h8
     rw[if_pos h8];refine af<|iL<|EJ (l:=l1++(_,q,c,l)::l2) rfl JR uI tk<|iN ?_;have hgive:=uN (ρ:=ρ) pp (S.pg.map Pg.taken) (s/64) 1 hp0 (by omega) (by grind) (by simpa using hmost) (fun j g1 g2=>by
      have:j=s/64:=by omega
      subst this;rw[fz,mV h1];rfl);apply cE hgive;have hS2:eO (S.pg.set (s/64) .free) (mj _ (l1++(_,q,c,l)::l2)):=hS.del nS (fun c l h=>by cases h);have hL2:fj (S.pg.set _ .free) ll:=hL.same (k8 (fun k h=>by rw[h1]at h;cases h) (fun k h=>by cases h));rw[hdel]at hS2⊢;rw[show Sp.sK (S.pg.map Pg.taken) false (s/64) 1=(S.pg.set (s/64) .free).map Pg.taken from(rA (x:= .free) hp).symm];refine tC (aP.cl (S:=⟨S.ws,S.pg.set _ .free⟩) hS2 hL2) ?_;exact rT
   ·have hns:∀c l,S.pg[s/64]? ≠some (.small c l):=fun c l h=>by rw[h1]at h;cases h
    have e:Sp.dH S s=(0,⟨S.ws,Sp.gX S.pg (s/64) k⟩):=by unfold Sp.dH;grind
    obtain⟨k1,k2,k3,k4⟩:=hw.head _ _ h1;rw[e,hS.none hns];refine bg rfl (af ?_);refine iL<|qP Lt uI zI Lr tk ?_;rw[hL.get nL h1];refine af<|iL ?_;refine EJ rfl Lt uI tk<|iN ?_;have htail:∀j:Nat,s/64≤j→j<s/64+k→S.pg[j]? =some (.head k)∧j=s/64∨S.pg[j]? =some .tail:=fun j g1 g2=>by grind
    have hgive:=uN (ρ:=ρ) pp (S.pg.map Pg.taken) (s/64) k hp0 (by omega) (by simpa using k3) (by simpa using hmost) (fun j g1 g2=>by rcases htail j g1 g2 with ⟨h,_⟩|h<;>rw[fz,mV h]<;>rfl);apply cE hgive;have hS2:eO (Sp.gX S.pg (s/64) k) ls:=hS.same (fun j c l=>by
     by_cases hj:s/64≤j∧j<s/64+k;·rw[dO,if_pos ae,if_pos hj];grind
     ·rw[g8 hj]);have hL2:fj (Sp.gX S.pg (s/64) k) (mj ((s/64:Nat):Int) ll):=hL.del nL (fun k' h=>by rw[dO,if_pos hp,if_pos ⟨ae,ae⟩]at h;cases h) (fun j k' hj=>by
     by_cases hj2:s/64≤j∧j<s/64+k;·rw[dO,if_pos ae,if_pos hj2];grind
     ·rw[g8 hj2]);rw[←yN];refine tC (aP.cl (S:=⟨S.ws,Sp.gX _ _ k⟩) hS2 hL2) ?_;exact rT
theorem Wf.FX{S:aJ}(hw:Wf S){i c:Nat}{l:List Bool}(hp:S.pg[i]? =some (.small c l)):Wf ⟨S.ws,S.pg.set i .free⟩:=by
 have hi:=cf hp;refine⟨by simp[hw.len],by simp[hw.fF],by simp[hw.pos],?_,?_,?_,?_⟩
 ·intro j;rw[lN hi];split;·rename_i e;subst e;simp only[reduceCtorEq,Option.some.injEq,false_iff];intro h;have:=(hw.res i).mpr h;grind
  ·exact hw.res j
 ·intro j c' l' h;rw[lN hi]at h;split at h;·cases h
  ·exact hw.small j _ _ h
 ·intro j k h;rw[lN hi]at h;split at h;·cases h
  ·obtain⟨h1,h2,h3,h4⟩:=hw.head j k h;grind
 ·intro j h;rw[lN hi]at h;split at h;·cases h
  ·obtain⟨j',k,h1,h2⟩:=hw.tail j h;grind
theorem Wf.BG{S:aJ}(hw:Wf S){i k:Nat}(hp:S.pg[i]? =some (.head k)):Wf ⟨S.ws,Sp.gX S.pg i k⟩:=by
 obtain⟨k1,k2,k3,k4⟩:=hw.head _ _ hp;have hr:∀j:Nat,i≤j→j<i+k→S.pg[j]? ≠some .res:=fun j g1 g2 h=>by grind
 refine⟨by simp[hw.len,gZ],by simp[hw.fF,gZ],by simp[hw.pos,gZ],?_,?_,?_,?_⟩
 ·intro j;by_cases hj:i≤j∧j<i+k;·rw[dO,if_pos ae,if_pos hj];simp only[reduceCtorEq,Option.some.injEq,false_iff];intro h;exact hr j hj.1 hj.2 ((hw.res j).mpr h)
  ·rw[g8 hj];exact hw.res j
 ·intro j c l h;by_cases hj:i≤j∧j<i+k;·rw[dO,if_pos ae,if_pos hj]at h;cases h
  ·rw[g8 hj]at h;exact hw.small j c l h
 ·intro j k' h;rw[gZ];by_cases hj:i≤j∧j<i+k;·rw[dO,if_pos ae,if_pos hj]at h;cases h
  ·rw[g8 hj]at h;obtain⟨h1,h2,h3,h4⟩:=hw.head j k' h;refine⟨h1,h2,h3,fun j' g1 g2=>?_⟩;by_cases hj':i≤j'∧j'<i+k;·grind
   ·rw[g8 hj'];exact h4 _ g1 g2
 ·intro j h;by_cases hj:i≤j∧j<i+k;·rw[dO,if_pos ae,if_pos hj]at h;cases h
  ·rw[g8 hj]at h;obtain⟨j',k',h1,h2⟩:=hw.tail j h;refine⟨j',k',?_,h2⟩;by_cases hj':i≤j'∧j'<i+k;·grind
   ·rw[g8 hj'];exact h1
theorem Sp.BX{S:aJ}(hw:Wf S)(a:Int):Wf (Sp.dH S a).2:=by
 unfold Sp.dH;split
 ·rename_i s w hf;split
  ·rename_i e;subst e;obtain⟨hn,hcase⟩:=Sp.l5 hw hf rfl;rcases hcase with ⟨c,l,k,h1,h2,h3,h4,h5,h6,h7⟩|⟨k,h1,h2,h3⟩
   ·rw[Int.toNat_natCast,h1];dsimp only;split;·exact hw.FX h1
    ·exact hw.wi rfl h2 (by simpa using h3) (.inr ⟨c,l,h1⟩)
   ·rw[Int.toNat_natCast,h1];exact hw.BG h1
  ·exact hw
 ·exact hw
theorem vp{α β:Type}{a b:α→Bool}{g:α→List β}(hab:∀x,a x=true→b x=true→False)(h0:∀x,a x=false→b x=false→g x=[]):∀l:List α,((l.filter a).flatMap g++(l.filter b).flatMap g).Perm (l.flatMap g)
 |[]=> .refl _
 |x::l=>by
  have ih:=vp hab h0 l;cases ha:a x with
  |true=>
   have hb:b x=false:=by grind
   rw[List.filter_cons_of_pos ha,List.filter_cons_of_neg (by simp[hb]),List.flatMap_cons,List.flatMap_cons,List.append_assoc];exact ih.append_left _
  |false=>
   rw[List.filter_cons_of_neg (by simp[ha])];cases hb:b x with
   |true=>
    rw[List.filter_cons_of_pos hb,List.flatMap_cons,List.flatMap_cons];have:((l.filter a).flatMap g++(g x++(l.filter b).flatMap g)).Perm (g x++((l.filter a).flatMap g++(l.filter b).flatMap g)):=by rw[←List.append_assoc,←List.append_assoc];exact List.perm_append_comm.append_right _
    exact this.trans (ih.append_left _)
   |false=>grind
def Pg.Mp:Pg→Bool| .head _=>true|_=>false
def Sp.uF(pg:List Pg):List Nat:=(List.range pg.length).filter fun p=>(pg.getD p .free).Mp
theorem Sp.pK{pg:List Pg}{p:Nat}:p∈Sp.uF pg↔∃k,pg[p]? =some (.head k):=by
 unfold Sp.uF;rw[List.mem_filter,List.mem_range];constructor
 ·rintro⟨h1,h2⟩;rw[List.getD_eq_getElem?_getD,List.getElem?_eq_getElem h1]at h2;rw[List.getElem?_eq_getElem h1];revert h2;generalize pg[p]=x;intro h2;cases x with
  |head k=>exact⟨k,rfl⟩
  |_=>cases h2
 ·rintro⟨k,h⟩;exact⟨cf h,by rw[List.getD_eq_getElem?_getD,h];rfl⟩
def Sp.gE(pg:List Pg)(p:Nat):List Int:=Sp.jh p (pg.getD p .free)
def Sp.KZ(x:Int×vx):List Int:=Sp.jh x.1.toNat (.small x.2.2.1 x.2.2.2)
theorem xB{α β:Type}{f:α→β}{l:List α}(h:(l.map f).Nodup):l.Nodup:=(List.pairwise_map.mp h).imp fun hab e=>hab (by rw[e])
theorem zy{pg:List Pg}{ls:List (Int×vx)}(hS:eO pg ls)(nS:(ls.map (·.1)).Nodup):(ls.flatMap Sp.KZ).Perm ((Sp.eN pg).flatMap (Sp.gE pg)):=by
 have h1:(ls.map fun x=>(x.1,x.2.2)).Perm ((Sp.eN pg).map fun p:Nat=>((p:Int),match pg.getD p .free with |Pg.small c l=>(c,l)|_=>(0,[]))):=by
  rw[List.perm_ext_iff_of_nodup]
  ·rintro⟨i,c,l⟩;rw[List.mem_map,List.mem_map];constructor;·rintro⟨⟨i',q,c',l'⟩,h1,h2⟩;injection h2 with e1 e2;obtain⟨h0,h2⟩:=(hS i' c' l').mp ⟨q,h1⟩;refine⟨i'.toNat,Sp.jz.mpr ⟨c',l',h2⟩,?_⟩;grind
   ·rintro⟨p,hp,e⟩;obtain⟨c',l',h⟩:=Sp.jz.mp hp;rw[mV h]at e;injection e with e1 e2;injection e2 with e2 e3;subst e1;subst e2;subst e3;obtain⟨q,hq⟩:=(hS p c' l').mpr ⟨ae,by simpa using h⟩;exact⟨_,hq,rfl⟩
  ·grind
  ·apply xB (f:=(·.1));rw[List.map_map];exact List.Pairwise.map _ (fun a b h=>by grind) (Sp.lK pg)
 have e1:ls.flatMap Sp.KZ=(ls.map fun x=>(x.1,x.2.2)).flatMap fun y=>Sp.jh y.1.toNat (.small y.2.1 y.2.2):=by rw[List.flatMap_map];rfl
 rw[e1];apply (h1.flatMap_right _).trans;rw[List.flatMap_map];have:∀l:List Nat,(∀p∈l,p∈Sp.eN pg)→(l.flatMap fun p:Nat=>Sp.jh (((p:Nat):Int)).toNat (.small (match pg.getD p .free with |Pg.small c l=>(c,l)|_=>(0,[])).1 (match pg.getD p .free with |Pg.small c l=>(c,l)|_=>(0,[])).2))=l.flatMap (Sp.gE pg):=by
  intro l;induction l with
  |nil=>intro _;rfl
  |cons p l ih=>intro h;rw[List.flatMap_cons,List.flatMap_cons,ih fun q hq=>h q (List.mem_cons_of_mem _ hq)];obtain⟨c',l',hp⟩:=Sp.jz.mp (h p List.mem_cons_self);unfold Sp.gE;grind
 simp_all
theorem zl{pg:List Pg}{ll:List (Int×Nat)}(hL:fj pg ll)(nL:(ll.map (·.1)).Nodup):(ll.map fun x=>x.1*64).Perm ((Sp.uF pg).flatMap (Sp.gE pg)):=by
 have h1:(ll.map (·.1)).Perm ((Sp.uF pg).map fun p:Nat=>(p:Int)):=by
  rw[List.perm_ext_iff_of_nodup nL]
  ·intro i;rw[List.mem_map,List.mem_map];constructor;·rintro⟨⟨i',k⟩,h1,rfl⟩;obtain⟨h0,h2⟩:=(hL i' k).mp h1;exact⟨i'.toNat,Sp.pK.mpr ⟨k,h2⟩,bq⟩
   ·rintro⟨p,hp,rfl⟩;obtain⟨k,h⟩:=Sp.pK.mp hp;exact⟨_,(hL p k).mpr ⟨ae,by simpa using h⟩,rfl⟩
  ·exact List.Pairwise.map _ (fun a b h=>by omega) (List.Pairwise.filter _ List.pairwise_lt_range)
 have e1:(ll.map fun x=>x.1*64)=(ll.map (·.1)).map (·*64):=by simp
 rw[e1];apply (h1.map _).trans;have:∀l:List Nat,(∀p∈l,p∈Sp.uF pg)→l.map ((fun x:Int=>x*64)∘fun p:Nat=>(p:Int))=l.flatMap (Sp.gE pg):=by
  intro l;induction l with
  |nil=>intro _;rfl
  |cons p l ih=>intro h;rw[List.map_cons,List.flatMap_cons,ih fun q hq=>h q (List.mem_cons_of_mem _ hq)];obtain⟨k,hp⟩:=Sp.pK.mp (h p List.mem_cons_self);unfold Sp.gE;rw[mV hp];simp[Sp.jh]
 grind
theorem DR{S:aJ}{ls:List (Int×vx)}{ll:List (Int×Nat)}(hS:eO S.pg ls)(nS:(ls.map (·.1)).Nodup)(hL:fj S.pg ll)(nL:(ll.map (·.1)).Nodup):(ls.flatMap Sp.KZ++(ll.map fun x:Int×Nat=>x.1*64)).Perm (Sp.each S):=by
 refine((zy hS nS).append (zl hL nL)).trans<|vp (fun p h1 h2=>?_) (fun p h1 h2=>?_) _;·revert h1 h2;cases S.pg.getD p .free<;>simp[Pg.LN,Pg.Mp]
 ·revert h1 h2;unfold Sp.gE;cases S.pg.getD p .free<;>simp[Pg.LN,Pg.Mp,Sp.jh]
theorem Sp.xm{S:aJ}(hw:Wf S){p:Nat}{a:Int}(h:a∈Sp.gE S.pg p):∃n:Nat,a=n∧n/64=p∧n<S.ws.length∧∃w,Sp.find S n=some (n,w)∧2≤w∧w≤1024∧n+w≤S.ws.length:=by
 have hlen:=hw.len;unfold Sp.gE at h;rcases Nat.lt_or_ge p S.pg.length with hp|hp;rotate_left;·rw[List.getD_eq_getElem?_getD,List.getElem?_eq_none hp]at h;cases h
 have hpg:=xD hp;revert h hpg;generalize S.pg.getD p .free=x;intro h hpg;cases x with
 |small c l=>
  obtain⟨hc,hl⟩:=hw.small _ _ _ hpg;simp only[Sp.jh,List.mem_filterMap,List.mem_range]at h;obtain⟨k,hk,h⟩:=h;split at h
  ·rename_i hb;injection h with h;obtain⟨f1,f2,f3⟩:=m9 hc hk hl;have e1:(p*64+k*Sp.sz c)/64=p:=by omega
   have e2:(p*64+k*Sp.sz c)%64=k*Sp.sz c:=by omega
   refine⟨p*64+k*Sp.sz c,h.symm,e1,ae,Sp.sz c,?_,f2,ae,ae⟩;rw[Sp.gn ae (by rw[e1];exact hpg),e1,e2,Nat.mul_div_cancel _ ae,if_pos hb]
  ·cases h
 |head k=>
  obtain⟨k1,k2,k3,k4⟩:=hw.head _ _ hpg;simp only[Sp.jh,List.mem_singleton]at h;have e1:p*64/64=p:=by omega
  refine⟨p*64,h,e1,ae,k*64,?_,ae,ae,ae⟩;rw[Sp.fb ae eV,e1,Sp.ov hw hpg ⟨ae,ae⟩];rfl
 |_=>cases h
theorem Sp.fP{S:aJ}{a:Int}:a∈Sp.each S↔∃p,p<S.pg.length∧a∈Sp.gE S.pg p:=by
 unfold Sp.each;rw[List.mem_flatMap];constructor;·rintro⟨p,hp,h⟩;exact⟨p,by simpa using hp,h⟩
 ·rintro⟨p,hp,h⟩;exact⟨p,by simpa using hp,h⟩
theorem Sp.jD{S:aJ}(hw:Wf S){a:Int}(h:a∈Sp.each S):∃n:Nat,a=n∧n<S.ws.length∧∃w,Sp.find S n=some (n,w)∧2≤w∧w≤1024∧n+w≤S.ws.length:=by obtain⟨p,_,hp⟩:=Sp.fP.mp h;obtain⟨n,h1,_,h2,h3⟩:=Sp.xm hw hp;grind
theorem Sp.lZ{S:aJ}(hw:Wf S):(Sp.each S).Pairwise (·<·):=by
 unfold Sp.each;rw[List.pairwise_flatMap];constructor
 ·intro p hp;unfold Sp.jh;split
  ·rename_i c l hpg;have hpl:p<S.pg.length:=by simpa using hp
   have:=xD hpl;rw[hpg]at this;have hc:=(hw.small _ _ _ this).1;have hz:=Sp.eH hc;refine List.Pairwise.filterMap _ ?_ List.pairwise_lt_range;grind
  ·simp
  ·exact .nil
 ·refine List.pairwise_lt_range.imp fun{p q} hpq x hx y hy=>?_;obtain⟨n,h1,h2,_⟩:=Sp.xm hw hx;obtain⟨m,g1,g2,_⟩:=Sp.xm hw hy;omega
theorem Sp.IZ{S:aJ}(hw:Wf S)(p:Nat):(Sp.gE S.pg p).length≤32:=by
 unfold Sp.gE;rcases Nat.lt_or_ge p S.pg.length with hp|hp
 ·have hpg:=xD hp;revert hpg;generalize S.pg.getD p .free=x;intro hpg;cases x with
  |small c l=>obtain⟨hc,hl⟩:=hw.small _ _ _ hpg;apply Nat.le_trans (List.length_filterMap_le _ _);have hz:=Sp.eH hc;grind
  |head k=>simp[Sp.jh]
  |_=>simp[Sp.jh]
 ·rw[List.getD_eq_getElem?_getD,List.getElem?_eq_none hp];simp[Sp.jh]
theorem sg{α β:Type}{g:α→List β}{m:Nat}(h:∀x,(g x).length≤m):∀l:List α,(l.flatMap g).length≤l.length*m
 |[]=>by simp
 |x::l=>by rw[List.flatMap_cons,List.length_append,List.length_cons,Nat.add_mul];have:=sg h l;have:=h x;omega
theorem Sp.df{S:aJ}(hw:Wf S):(Sp.each S).length≤8192:=by have:=sg (Sp.IZ hw) (List.range S.pg.length);have h2:=hw.fF;rw[List.length_range]at this;have e:Sp.each S=(List.range S.pg.length).flatMap (Sp.gE S.pg):=rfl;rw[e];omega
def Sp.rB(p c:Nat)(l:List Bool)(q:Nat):List Int:=(List.range q).filterMap fun i=>if l.getD i false then some ((p*64+i*Sp.sz c:Nat):Int)else none
theorem Sp.yJ(p c:Nat)(l:List Bool):Sp.rB p c l l.length=Sp.jh p (.small c l):=rfl
theorem Sp.rG{p c q k:Nat}{l:List Bool}(h:∀j,q≤j→j<k→l.getD j false≠true)(hqk:q≤k):Sp.rB p c l k=Sp.rB p c l q:=by
 obtain⟨d,rfl⟩:∃d,k=q+d:=⟨k-q,ae⟩;clear hqk;induction d with
 |zero=>rfl
 |succ d ih=>unfold Sp.rB at ih⊢;rw[show q+(d+1)=q+d+1 by omega,List.range_succ,List.filterMap_append,ih fun j h1 h2=>h j h1 ae];grind
theorem Sp.yK{p c k:Nat}{l:List Bool}(h:l.getD k false=true):Sp.rB p c l (k+1)=Sp.rB p c l k++[((p*64+k*Sp.sz c:Nat):Int)]:=by unfold Sp.rB;rw[List.range_succ,List.filterMap_append];grind
theorem Sp.tY(p c:Nat)(l:List Bool)(q:Nat):(Sp.rB p c l q).length≤q:=by unfold Sp.rB;grind
theorem jw(p:Nat)(S:aJ)(hw:Wf S):Gl.Spec ρ Zp 136 [pA p] [aP p S] RS
  fun r M=>r.n=(Sp.each S).length∧M=[aw r 1 ((Sp.each S).map i64),aP p S]:=by
 have hmost:=hw.fF;have hel:=Sp.df hw;refine So (F.space.aV.tZ.calls _) fun R=>ak rfl (af (aP.op tk fun pa pp ms ml ls ll hS hL nS nL=>?_));have hperm:=DR hS nS hL nL;have hpl:=hperm.length_eq;rw[List.length_append,List.length_map]at hpl;have hent:∀i q c l,(i,q,c,l)∈ls→0≤i∧i<256∧c<5∧l.length=64/Sp.sz c∧l.length≤32:=fun i q c l h=>by obtain⟨h0,h1⟩:=(hS i c l).mp ⟨q,h⟩;obtain⟨h2,h3⟩:=hw.small _ _ _ h1;have hz:=Sp.eH h2;grind
 refine iL<|A6 JR tk fun r=>Tr.cg 1<|Tr.take (A:=star _) tk<|Tr.take (A:=aw ⟨none,0,0⟩ 1 []) tk ?_;refine aM (fun m u M=>(fun s:av=>∃rem cur xs,m=rem.length∧M=aw s 1 (xs.map i64)::star (ls.map w5)::MI ms r fS ls rem cur::au p [pA pa,pA pp,.map (some ms),.map (some ml)]::cW pa S.ws::eK pp (S.pg.map Pg.taken)::IM ml fL ll::R∧
   s.n=xs.length∧(∀x∈rem,x∈ls)∧(xs++rem.flatMap Sp.KZ).Perm (ls.flatMap Sp.KZ)) u.1) ls.length ?_ ?_;·exact⟨ls,none,[],rfl,rfl,rfl,fun x hx=>hx,.refl _⟩
 ·rintro m ⟨(s:av),⟨⟩⟩ M ⟨rem,cur,xs,rfl,rfl,hn,hsub,hpm⟩ X hX;have hpm':=hpm.length_eq;rw[List.length_append]at hpm';refine Ak KM tk (fun h0=>?_) (fun k v r1 r2 hr=>?_);·--the larger ones
   subst h0;refine MI.over tk (af ?_);refine iL ?_;refine A6 Lt tk fun r2=>?_;rw[List.flatMap_nil,List.append_nil]at hpm;refine Tr.take (A:=aw s 1 _) tk ?_;refine aM (fun m u M=>(fun s:av=>∃rem cur ys,m=rem.length∧M=aw s 1 (ys.map i64)::MI ml r2 fL ll rem cur::IM ms fS ls::star (ls.map w5)::au p [pA pa,pA pp,.map (some ms),.map (some ml)]::cW pa S.ws::eK pp (S.pg.map Pg.taken)::R∧
     s.n=ys.length∧(∀x∈rem,x∈ll)∧(ys++rem.map fun x:Int×Nat=>x.1*64).Perm (xs++ll.map fun x:Int×Nat=>x.1*64)) u.1) ll.length ?_ ?_;·grind
   ·rintro m ⟨(s:av),⟨⟩⟩ M ⟨rem,cur,ys,rfl,rfl,hn2,hsub2,hpm2⟩ X hX;have hpm2':=hpm2.length_eq;rw[List.length_append,List.length_append,List.length_map,List.length_map]at hpm2';dsimp only at*;refine Ak Lr tk (fun h0=>?_) (fun k v r3 r4 hr=>?_)
    ·subst h0;rw[List.map_nil,List.append_nil]at hpm2;have hall:=hpm2.trans ((hpm.append_right _).trans hperm);have hyl:=hall.length_eq;refine MI.over tk<|ai (wG s ys ae) ar ?_;rintro x M rfl;have hso:Sp.sort ys=Sp.each S:=by rw[Sp.oY hall];exact Sp.te ((Sp.lZ hw).imp fun h=>by omega)
     rw[hso];exact Tr.close ar (aP.cl hS hL)<|rT ⟨by rw[hn2,hyl],rfl⟩
    ·apply Bo Lr tk;have hkv:(k,v)∈ll:=hsub2 _ (by rw[hr];simp);obtain⟨hk0,hkp⟩:=(hL k v).mp hkv;have hk:=cf hkp;refine aq fun b=>?_;rw[bG (n:=k*64)];refine eu (x:=⟨oA b,1,1⟩) bJ tk (Rd.cl tk rfl rfl) rfl bq bq fun t ht=>?_;have e:ys.map i64++[i64 (k*64)]=(ys++[k*64]).map i64:=by simp
     rw[e];refine tD (au b [i64 _])<|hX (r3++r4).length _ _ (by rw[hr];simp) ⟨r3++r4,_,ys++[k*64],rfl,rfl,eV,fun x hx=>hsub2 x ?_,?_⟩;·grind
     grind
  ·obtain⟨q,c,l⟩:=v;apply Bo KM tk;have hkv:(k,q,c,l)∈ls:=hsub _ (by rw[hr];simp);obtain⟨hk0,hk,hc,hl,hl32⟩:=hent k q c l hkv;obtain⟨pn,rfl⟩:∃n:Nat,k=n:=⟨k.toNat,ae⟩;obtain⟨l1,l2,hl12⟩:∃l1 l2,ls=l1++((pn:Int),q,c,l)::l2:=List.append_of_mem hkv;have hatl:(Sp.KZ (pn,q,c,l))=Sp.jh pn (.small c l):=by unfold Sp.KZ;simp
   apply af;subst hl12;refine Tr.HA tk ?_;refine dk.op (p:=q) (l:=l) (w:=(Sp.sz c:Int)) .here fun b=>iL<|cE (jH b l 0 _ ae)<|Tr.close ar (dk.cl) ?_;refine Tr.take (A:=aw s 1 _) tk ?_;refine aM (fun n u M=>(fun(t:av) (i:Int)=>∃(qn:Nat) (ys:List Int),n=l.length-qn∧i=Sp.next l qn true∧ys=xs++Sp.rB pn c l qn∧qn≤l.length∧t.n=ys.length∧
     M=aw t 1 (ys.map i64)::dk q l (Sp.sz c)::star ((l1++l2).map w5)::MI ms r fS (l1++((pn:Int),q,c,l)::l2) (r1++r2) (some ((pn:Int),q,c,l))::au p [pA pa,pA pp,.map (some ms),.map (some ml)]::cW pa S.ws::eK pp (S.pg.map Pg.taken)::IM ml fL ll::R) u.1 u.2.1) l.length ?_ ?_;·exact⟨0,xs,rfl,rfl,by simp[Sp.rB],ae,hn,rfl⟩
   ·rintro n ⟨(t:av),(i:Int),⟨⟩⟩ M ⟨qn,ys,rfl,hi,hys,hql,htn,rfl⟩ Y hY;have hyl:ys.length≤30000:=by rw[hys,List.length_append];have:=Sp.tY pn c l qn;omega
    dsimp only at*;rcases Sp.jy l true qn with ⟨g1,g2⟩|⟨kk,g1,g2,g3,g4,g5⟩
    ·refine ak (decide_eq_false (show¬_≥0 by rw[hi,g1];decide))<|Tr.close ar (jJ pn)<|Tr.take (A:=aw t 1 _) tk<|hX (r1++r2).length _ _ (by rw[hr];simp) ⟨r1++r2,_,ys,rfl,rfl,htn,fun x hx=>hsub x ?_,?_⟩;·grind
     ·refine List.Perm.trans ?_ hpm;rw[hys,←Sp.rG (p:=pn) (c:=c) (q:=qn) (k:=l.length) (l:=l) (fun j h1 h2=>g2 j h1 h2) hql,Sp.yJ,List.append_assoc,List.flatMap_append];grind
    ·refine bg (decide_eq_true (show i≥0 by omega))<|cE (iB q l _)<|aq fun b2=>?_;rw[g1]at hi;subst hi;obtain⟨f1,f2,f3⟩:=m9 hc g3 hl;have e1:kk*(Sp.sz c:Int)=((kk*Sp.sz c:Nat):Int):=by simp
     rw[e1];have hone:=Sp.yK (p:=pn) (c:=c) g4;have hskip:=Sp.rG (p:=pn) (c:=c) g5 g2;generalize kk*Sp.sz c=dd at f1 hone⊢;rw[wrap64 (n:=(dd:Int)) ae ae,wrap64 (n:=(pn:Int)*64) ae ae,wrap64 (n:=(pn:Int)*64+(dd:Int)) ae ae];refine eu (x:=⟨oA b2,1,1⟩) bJ tk (Rd.cl tk rfl rfl) rfl bq bq fun t2 ht2=>?_;have e:ys.map i64++[i64 (pn*64+dd)]=(ys++[((pn*64+dd:Nat):Int)]).map i64:=by simp
     rw[e];refine tD (au _ [i64 _])<|af ?_;refine dk.op tk fun b=>iL ?_;have w1:IntKind.wrap .i64 (kk+1)=((kk+1:Nat):Int):=by rw[bG];simp
     rw[w1];apply cE (jH b l _ _ ae);exact Tr.close ar (dk.cl)<|Tr.take (A:=aw _ 1 _) tk<|hY _ _ _ ae ⟨kk+1,ys++[(_:Int)],rfl,rfl,eV,ae,eV,rfl⟩
def Sp.cV(S:aJ)(a:Int):Int:=match Sp.find S a with |some (_,w)=>(w:Int)|none=>0
theorem pO(p:Nat)(S:aJ)(hw:Wf S):Gl.Spec ρ Zp 74 [pA p] [aP p S] R1
  fun r M=>r=((Sp.each S).map (Sp.cV S)).sum∧M=[aP p S]:=by
 have hel:=Sp.df hw;refine So (F.space.aV.Used.calls _) fun R=>ai (jw p S hw) ar ?_;rintro s M ⟨hs,rfl⟩;refine Tr.cL tk fun ρ' hle hro=>?_;have hb:∀a∈Sp.each S,0≤Sp.cV S a∧Sp.cV S a≤1024:=fun a ha=>by obtain⟨n,rfl,_,w,h1,h2,h3,_⟩:=Sp.jD hw ha;unfold Sp.cV;grind
 have hsum:∀k,k≤(Sp.each S).length→0≤(((Sp.each S).take k).map (Sp.cV S)).sum∧(((Sp.each S).take k).map (Sp.cV S)).sum≤1024*k:=by
  intro k;induction k with
  |zero=>intro _;simp
  |succ k ih=>intro hk;rw[aE 0 ae,List.map_append,List.sum_append];grind
 refine aM (fun n u M=>(fun c i:Int=>M=aP p S::R∧0≤i∧i≤(Sp.each S).length∧n=(Sp.each S).length-i.toNat∧c=(((Sp.each S).take i.toNat).map (Sp.cV S)).sum) u.1 u.2.1) (Sp.each S).length ?_ ?_;·simp
 ·rintro n ⟨(c:Int),(i:Int),⟨⟩⟩ M ⟨rfl,h0,h1,rfl,hc⟩ X hX;dsimp only at*;refine ag (fun h=>?_) (fun h=>?_)
  ·replace h:i<(s.n:Int):=oT h;have hi:i.toNat<(Sp.each S).length:=by omega
   refine bz hro h0 h fun a0 ha=>cu ha hro fX (getD_map hi)<|cE (nC p S hw _) ?_;have e:(Sp.found (Sp.find S ((Sp.each S).getD i.toNat 0))).2.1=Sp.cV S ((Sp.each S).getD i.toNat 0):=by unfold Sp.cV Sp.found;grind
   rw[e];have hs2:=hsum (i.toNat+1) ae;have hstep:(((Sp.each S).take (i.toNat+1)).map (Sp.cV S)).sum=c+Sp.cV S ((Sp.each S).getD i.toNat 0):=by rw[aE 0 hi,List.map_append,List.sum_append,hc];simp
   rw[wrap64 (n:=c+Sp.cV S ((Sp.each S).getD i.toNat 0)) ae ae,wrap64 (n:=i+1) ae ae];refine hX ((Sp.each S).length-(i+1).toNat) _ _ ae ⟨rfl,bq,bq,rfl,?_⟩;grind
  ·replace h:¬i<(s.n:Int):=oF h;rw[List.take_of_length_le ae]at hc;rw[hc];exact rT
def Sp.uf(x:Int):Hd:=⟨Int.tmod x 8,Int.tdiv (Int.tmod x 65536) 16,Int.tdiv x 65536,Int.tmod (Int.tdiv x 8) 2==1⟩
theorem Sp.jc{h:Hd}(hm:Sp.fk h=true):Sp.uf (Sp.fV h)=h:=by obtain⟨g1,g2,g3,g4,_⟩:=Sp.vg hm;unfold Sp.uf;rw[g1,g2,g3,g4]
structure aY(S:aJ)(cs:List aX):Prop where
 wf:Wf S
 obj:∀n w:Nat,Sp.find S n=some (n,w)→∃h:Hd,Sp.fk h=true∧S.ws.getD n 0=Sp.fV h∧h.n+1≤(w:Int)
 cls:cs.length≤256
 refs:∀c∈cs,c.2.length≤2^20
def aF(p:Nat)(S:aJ)(cs:List aX):aD:=fun h=>∃i:Nat×Nat,star [au p [pA i.1,pA i.2],aP i.1 S,cA i.2 cs] h
theorem aF.op{p:Nat}{S:aJ}{cs:List aX}(t:Take L (aF p S cs) L')(h:∀ps pt:Nat,Tr ρ0 ρ (au p [pA ps,pA pt]::aP ps S::cA pt cs::L') T Post):Tr ρ0 ρ L T Post:=
 Tr.iW (M:=fun i:Nat×Nat=>[au p [pA i.1,pA i.2],aP i.1 S,cA i.2 cs]) (c:=fun _=>True) t (fun _ ⟨i,h⟩=>⟨i,trivial,h⟩) fun i _=>h i.1 i.2
theorem aF.cl{p ps pt:Nat}{S:aJ}{cs:List aX}(h:HP)(H:star [au p [pA ps,pA pt],aP ps S,cA pt cs] h):aF p S cs h:=⟨(ps,pt),H⟩
theorem tn(n:Int)(h0:1≤n)(h1:n≤256):Gl.Spec ρ Zp 94 [i64 n] [] PE
  fun r M=>∃b,r=(oA b,0,())∧M=[aF b (Sp.ch n.toNat) []]:=by refine So (F.object.gB.calls n) fun R=>ai (Dp n h0 h1) ar ?_;rintro x M ⟨ps,rfl,rfl⟩;refine bF<|ai (Dc) ar ?_;rintro x M ⟨pt,rfl,rfl⟩;exact aq fun b=>Tr.close ar (aF.cl)<|rT ⟨b,rfl,rfl⟩
theorem zJ(n:Int)(h:¬(1≤n∧n≤256)):Gl.Spec ρ Zp 94 [i64 n] [] PE fun r M=>r=(none,1,())∧M=[]:=by exact So (F.object.gB.calls n) fun R=>cE (AQ n h)<|bT<|rT
def Sp.iI(cs:List aX)(c:Int):Option aX:=if 1≤c∧c≤cs.length then cs[(c-1).toNat]? else none
theorem Sp.nv{cs:List aX}{c:Int}{x:aX}(h:Sp.iI cs c=some x):∃i:Nat,c=i+1∧cs[i]? =some x:=by
 unfold Sp.iI at h;split at h;·exact⟨(c-1).toNat,ae,h⟩
 ·cases h
theorem Sp.ua{cs:List aX}{c:Int}(h:Sp.iI cs c=none):¬(1≤c∧c≤cs.length):=by intro hc;unfold Sp.iI at h;rw[if_pos hc,List.getElem?_eq_none_iff]at h;omega
def Ob.may(cs:List aX)(h:Hd):Int:=
 if Sp.fk h=false∨h.f=true then 1 else if h.k≠1 then 0 else
  match Sp.iI cs h.c with |some c=>if c.1≠h.n then 1 else 0|none=>2
theorem JO:zc Zp 109=[.int .i64 0,.slice none 0 0]:=by kernel_rfl
theorem EX:zc Zp 72=[.int .i64 0,.int .i64 0,.int .i64 0,.bool false]:=by kernel_rfl
theorem Av(p:Nat)(S:aJ)(cs:List aX)(hw:aY S cs)(h:Hd):Gl.Spec ρ Zp 271 [pA p,lC h] [aF p S cs] R1
  fun r M=>r=Ob.may cs h∧M=[aF p S cs]:=by
 have jb:=hw.cls;refine So (F.object.bN.may.calls _ h.t) fun R=>?_;obtain⟨k,c,n,f⟩:=h;refine aq fun b1=>aN (x:=(k,c,n,f,())) [] rfl tk rfl<|cE (zn ⟨k,c,n,f⟩)<|ag (fun h1=>?_) (fun h1=>?_)
 ·have h1:Sp.fk ⟨k,c,n,f⟩=false:=by simpa using h1
  have e:Ob.may cs ⟨k,c,n,f⟩=1:=by unfold Ob.may;rw[if_pos (.inl h1)]
  rw[e];exact rT
 ·refine aT (x:=f) bL tk rfl<|ag (fun h2=>?_) (fun h2=>?_)
  ·have e:Ob.may cs ⟨k,c,n,f⟩=1:=by unfold Ob.may;rw[if_pos (.inr h2)]
   rw[e];exact rT
  ·apply lI _ _ k;have e0:Ob.may cs ⟨k,c,n,f⟩=if k≠1 then 0 else match Sp.iI cs c with |some c=>if c.1≠n then 1 else 0|none=>2:=by unfold Ob.may;grind
   refine ag (fun h3=>?_) (fun h3=>?_)
   ·have h3:k≠1:=by simpa using h3
    rw[e0,if_pos h3];exact rT
   ·have h3:¬k≠1:=by simpa using h3
    rw[if_neg h3]at e0;refine aF.op tk fun ps pt=>aA (aK [au p [pA ps,pA pt],au _ [.int _ k,.int _ c,.int _ n,.bool f]] ar ?_);refine af (hP _ _ _ ?_);refine jL ?_;cases hc:Sp.iI cs c with
    |none=>
     rw[hc]at e0;rw[e0];have hcn:=Sp.ua hc;refine cr ?_ ?_;·refine cE (iO _ _ c hcn)<|aq fun b2=>?_;rw[JO];refine iT<|bT ?_;refine tC (aF.cl) ?_;exact rT
     ·refine aq fun b2=>?_;rw[JO];first |refine cK ?_|skip
      apply cE (iO _ _ c hcn);refine iT<|bT ?_;refine tC (aF.cl) ?_;exact rT
    |some cl=>
     rw[hc]at e0;rw[e0];obtain⟨i,rfl,hci⟩:=Sp.nv hc;have hrl:=hw.refs cl (List.mem_of_getElem? hci);have fin:∀{ρ':FR} {L:List aD} (b2:Nat) (q:av) (_:Le ρ ρ') (_:∃L2,aI L [au b2 [.int .i64 cl.1,.slice q.a q.n q.c],au b1 [.int .i64 k,.int .i64 (i+1),.int .i64 n,.bool f],au p [pA ps,pA pt],aP ps S,cA pt cs] L2∧Gl.Ends L2 R),
       Tr ρ ρ' L (Hk kI (fa ⟨b2,0,none⟩ 0) fun x12:Int=>Hk kI (fa ⟨b1,0,none⟩ 2) fun x13:Int=>br (x12 != x13) (ret (.int .i64 1)) (ret (.int .i64 0))) (SP R1 (fun r M=>r=(if cl.1≠n then 1 else 0)∧M=[aF p S cs]) R):=by
      rintro ρ' L b2 q hle ⟨L2,ht,he⟩;refine Tr.perm ht.perm<|iL<|iL<|tC (aF.cl)<|ag (fun h5=>?_) (fun h5=>?_);·rw[if_pos (by simpa using h5)];exact ax rfl ⟨rfl,rfl⟩ ar (.skip (.skip he))
      ·rw[if_neg (by simpa using h5)];exact ax rfl ⟨rfl,rfl⟩ ar (.skip (.skip he))
     refine cr ?_ ?_;·refine ai (kE _ _ i _ hci jb ae) ar ?_;rintro x M ⟨q,rfl,hq,rfl⟩;refine aq fun b2=>?_;rw[JO];refine iT<|bF ?_;exact fin _ q (Le.refl _) ⟨_,ar,bE⟩
     ·refine aq fun b2=>?_;rw[JO];first |refine cK ?_|skip
      refine ai (kE _ _ i _ hci jb ae) ar ?_;rintro x M ⟨q,rfl,hq,rfl⟩;refine iT<|bF ?_;exact fin _ q (Le.refl _) ⟨_,ar,bE⟩
theorem ou(ps:Nat)(S:aJ)(a x:Int){T:Tree}{k:Int→Tree}(ha:0≤a∧a<S.ws.length)(t:Take L (aP ps S) L')
  (h:Tr ρ0 ρ (aP ps ⟨S.ws.set a.toNat x,S.pg⟩::L') (k 0) Post):
  Tr ρ0 ρ L (nn (oA ps) fun a3=>Hk .ptr (fa a3 0) fun x4:Option Addr=>call Zp 230 [.pointer x4,.int .i64 a,.int .i64 x] R1 k) Post:=by
 refine Tr.take t<|af (aP.op .here fun pa pp ms ml ls ll hS hL nS nL=>?_);refine iL<|cE (zu _ _ a x) ?_;have e1:Sp.vq S.ws a=0:=by unfold Sp.vq;rw[if_pos ha]
 have e2:Sp.store S.ws a x=S.ws.set a.toNat x:=by unfold Sp.store;rw[if_pos ha]
 rw[e1,e2];exact tC (aP.cl (S:=⟨S.ws.set _ x,S.pg⟩) hS hL)<|h
theorem nq(ps:Nat)(S:aJ)(a:Int){k:RT P2→Tree}(ha:0≤a∧a<S.ws.length)(t:Take L (aP ps S) L')
  (h:Tr ρ0 ρ (aP ps S::L') (k (S.ws.getD a.toNat 0,0,())) Post):
  Tr ρ0 ρ L (nn (oA ps) fun a3=>Hk .ptr (fa a3 0) fun x4:Option Addr=>call Zp 197 [.pointer x4,.int .i64 a] P2 k) Post:=by
 refine Tr.take t<|af (aP.op .here fun pa pp ms ml ls ll hS hL nS nL=>?_);refine iL<|cE (BW _ _ a) ?_;have e1:Sp.load S.ws a=(S.ws.getD a.toNat 0,0,()):=by unfold Sp.load;rw[if_pos ha]
 rw[e1];exact tC (aP.cl hS hL)<|h
theorem Sp.uO{S:aJ}(hw:Wf S){w:Int}(h:(Sp.alloc S w).2.1=0):∃a n:Nat,(Sp.alloc S w).1=a∧Sp.au w=n∧2≤n∧n≤1024∧a+n≤S.ws.length∧(Sp.alloc S w).2.2.ws=Sp.iu S.ws a n∧(Sp.alloc S w).2.2.ws.length=S.ws.length:=by
 unfold Sp.alloc at h⊢;split at h;·cases h
 ·rename_i hb;rw[if_neg hb];split at h
  ·rename_i h0;rw[if_pos h0];rcases Sp.rp hw hb with hp|⟨_,a,n,ha,hn,n1,n2,n3⟩;·rw[hp]at h0;cases h0
   ·refine⟨a,n,ha,hn,n1,n2,n3,eV,?_⟩;rw[ha,hn,Int.toNat_natCast,Int.toNat_natCast];exact lY n3
  grind
theorem Sp.wC{S:aJ}{w:Int}(h:(Sp.alloc S w).2.1≠0):(Sp.alloc S w).2.2=S:=by unfold Sp.alloc at h⊢;grind
def Ob.make(S:aJ)(cs:List aX)(h:Hd):Int×Int×aJ:=
 if Ob.may cs h≠0 then(0,Ob.may cs h,S)
 else if(Sp.alloc S (h.n+1)).2.1≠0 then(0,(Sp.alloc S (h.n+1)).2.1,S)
 else((Sp.alloc S (h.n+1)).1,0,⟨(Sp.alloc S (h.n+1)).2.2.ws.set (Sp.alloc S (h.n+1)).1.toNat (Sp.fV h),(Sp.alloc S (h.n+1)).2.2.pg⟩)
theorem Ob.nR{cs:List aX}{h:Hd}(hm:Ob.may cs h=0):Sp.fk h=true∧h.f=false:=by unfold Ob.may at hm;grind
theorem sH(p:Nat)(S:aJ)(cs:List aX)(hw:aY S cs)(h:Hd):Gl.Spec ρ Zp 225 [pA p,lC h] [aF p S cs] P2
  fun r M=>r=((Ob.make S cs h).1,(Ob.make S cs h).2.1,())∧M=[aF p (Ob.make S cs h).2.2 cs]:=by
 refine So (F.object.bN.Make.calls _ h.t) fun R=>?_;obtain⟨k,c,n,f⟩:=h;refine aq fun b1=>bF<|aN (x:=(k,c,n,f,())) [] rfl tk rfl<|cE (Av p S _ hw ⟨k,c,n,f⟩)<|ag (fun h1=>?_) (fun h1=>?_)
 ·have h1:Ob.may cs ⟨k,c,n,f⟩≠0:=by simpa using h1
  have e:Ob.make S cs ⟨k,c,n,f⟩=(0,Ob.may cs ⟨k,c,n,f⟩,S):=by unfold Ob.make;rw[if_pos h1]
  rw[e];exact rT
 ·have h1:Ob.may cs ⟨k,c,n,f⟩=0:=by simpa using h1
  obtain⟨hm,hf⟩:=Ob.nR h1;have hb:=Sp.cb hm;dsimp only at hb;refine aF.op tk fun ps pt=>aA (aK [au p [pA ps,pA pt],au _ [.int _ k,.int _ c,.int _ n,.bool f]] ar ?_);refine af (hP _ _ _ ?_);refine jL ?_;rw[bG];refine cE (y7 _ S hw.wf _)<|ag (fun h2=>?_) (fun h2=>?_)
  ·have h2:(Sp.alloc S (n+1)).2.1≠0:=by simpa using h2
   have e:Ob.make S cs ⟨k,c,n,f⟩=(0,(Sp.alloc S (n+1)).2.1,S):=by unfold Ob.make;grind
   rw[e,Sp.wC h2];refine tC (aF.cl) ?_;exact rT
  ·have h2:(Sp.alloc S (n+1)).2.1=0:=by simpa using h2
   have e:Ob.make S cs ⟨k,c,n,f⟩=((Sp.alloc S (n+1)).1,0,⟨(Sp.alloc S (n+1)).2.2.ws.set (Sp.alloc S (n+1)).1.toNat (Sp.fV ⟨k,c,n,f⟩),(Sp.alloc S (n+1)).2.2.pg⟩):=by unfold Ob.make;grind
   rw[e];obtain⟨a,m,ha,hm2,m1,m2,m3,m4,m5⟩:=Sp.uO hw.wf h2;refine aN (x:=(k,c,n,f,())) [] rfl tk rfl<|cE (uM ⟨k,c,n,f⟩) ?_;rw[if_pos hm];refine iN<|ou _ (Sp.alloc S (n+1)).2.2 (Sp.alloc S _).1 (Sp.fV ⟨k,c,n,f⟩) (T:=bad) ae tk<|tC (aF.cl) ?_;exact rT
def Ob.head(S:aJ)(a:Int):Option Hd:=match Sp.find S a with
 |some (s,_)=>if(s:Int)=a then some (Sp.uf (S.ws.getD s 0))else none|none=>none
def Ob.jX:Option Hd→RT HE
 |some h=>(h.t,(0:Int),())|none=>(((0:Int),(0:Int),(0:Int),false,()),(2:Int),())
theorem Ob.bU{S:aJ}{cs:List aX}(hw:aY S cs){a:Int}{h:Hd}(hh:Ob.head S a=some h):∃n w:Nat,a=n∧Sp.find S n=some (n,w)∧S.ws.getD n 0=Sp.fV h∧Sp.fk h=true∧h.n+1≤w∧n+w≤S.ws.length:=by
 unfold Ob.head at hh;split at hh
 ·rename_i s w hf;split at hh
  ·rename_i e;subst e;injection hh with hh;obtain⟨h',h1,h2,h3⟩:=hw.obj s w hf;rw[h2,Sp.jc h1]at hh;subst hh;refine⟨s,w,rfl,hf,h2,h1,h3,?_⟩;obtain⟨hn,hcase⟩:=Sp.l5 hw.wf hf rfl;have hlen:=hw.wf.len;rcases hcase with ⟨c,l,k,g1,g2,g3,g4,g5,g6,g7⟩|⟨k,g1,g2,g3⟩
   ·have hk:k<l.length:=by grind
    have:=m9 g2 hk g3;omega
   ·have:=(hw.wf.head _ _ g1).2.2.1;omega
  ·cases hh
 ·cases hh
theorem du(p:Nat)(S:aJ)(cs:List aX)(hw:aY S cs)(a:Int):Gl.Spec ρ Zp 137 [pA p,i64 a] [aF p S cs] HE
  fun r M=>r=Ob.jX (Ob.head S a)∧M=[aF p S cs]:=by
 refine So (F.object.bN.Head.calls _ a) fun R=>aq fun b1=>?_;rw[EX];refine ak rfl (af (aF.op tk fun ps pt=>?_));refine iL<|cE (nC _ S hw.wf a) ?_;cases hf:Sp.find S a with
 |none=>
  have e:Ob.head S a=none:=by unfold Ob.head;rw[hf]
  rw[e];refine bT<|iT ?_;refine aN (x:=(_,_,_,false,())) [] rfl tk rfl<|tC (aF.cl) ?_;exact rT
 |some x=>
  obtain⟨s,w⟩:=x;refine ak rfl (ag (fun h=>?_) (fun h=>?_))
  ·have h:¬s=a:=by simpa[Sp.found]using h
   have e:Ob.head S a=none:=by unfold Ob.head;grind
   rw[e];refine iT ?_;refine aN (x:=(_,_,_,false,())) [] rfl tk rfl<|tC (aF.cl) ?_;exact rT
  ·have h:s=a:=by simpa[Sp.found]using h
   have e:Ob.head S a=some (Sp.uf (S.ws.getD s 0)):=by unfold Ob.head;grind
   obtain⟨n,w',rfl,g1,g2,g3,g4,g5⟩:=Ob.bU hw e;have hsn:s=n:=by omega
   subst hsn;rw[e];generalize Sp.uf (S.ws.getD s 0)=hd at g2 g3 g4⊢;have hb:=Sp.cb g3;refine iN<|nq _ S s ae tk ?_;rw[Int.toNat_natCast,g2];refine bF<|cE (zG _ g3)<|aq fun b2=>cz rfl tk bu rfl (ak rfl ?_);refine aN (x:=hd.t) [] rfl tk rfl<|iT ?_;refine aN [] rfl tk rfl<|tC (aF.cl) ?_;exact rT
def Ob.fieldAt(S:aJ)(a i:Int):Int×Int:=match Ob.head S a with
 |none=>(0,2)|some h=>if i<0∨i≥h.n then(0,1)else(a+1+i,0)
theorem Ob.gv{S:aJ}{cs:List aX}(hw:aY S cs){a i:Int}(h:(Ob.fieldAt S a i).2=0):∃hd,Ob.head S a=some hd∧0≤i∧i<hd.n∧(Ob.fieldAt S a i).1=a+1+i∧0≤a∧a+1+i<S.ws.length:=by
 unfold Ob.fieldAt at h⊢;cases hh:Ob.head S a with
 |none=>rw[hh]at h;cases h
 |some hd=>
  split at h;·cases h
  ·obtain⟨n,w,rfl,_,_,_,g4,g5⟩:=Ob.bU hw hh;grind
theorem qD(p:Nat)(S:aJ)(cs:List aX)(hw:aY S cs)(a i:Int):Gl.Spec ρ Zp 199 [pA p,i64 a,i64 i] [aF p S cs] P2
  fun r M=>r=((Ob.fieldAt S a i).1,(Ob.fieldAt S a i).2,())∧M=[aF p S cs]:=by
 have hm:=hw.wf.fF;have hl:=hw.wf.len;refine So (F.object.bN.field.calls _ a i) fun R=>cE (du p S _ hw a)<|aq fun b2=>?_;rw[EX];cases hh:Ob.head S a with
 |none=>
  have e:Ob.fieldAt S a i=(0,2):=by unfold Ob.fieldAt;rw[hh]
  rw[e];refine cz rfl tk bu rfl (bg rfl ?_);exact rT
 |some hd=>
  obtain⟨n,w,rfl,_,_,g3,g4,g5⟩:=Ob.bU hw hh;refine cz rfl tk bu rfl (ak rfl ?_);refine ag (fun h1=>?_) (fun h1=>?_)
  ·have e:Ob.fieldAt S n i=(0,1):=by unfold Ob.fieldAt;grind
   rw[e];exact rT
  ·have h1:=oF h1;refine lI _ 2 hd.n<|ag (fun h2=>?_) (fun h2=>?_)
   ·have e:Ob.fieldAt S n i=(0,1):=by unfold Ob.fieldAt;grind
    rw[e];exact rT
   ·have h2:=oF h2;have e:Ob.fieldAt S n i=(n+1+i,0):=by unfold Ob.fieldAt;grind
    rw[e,bG (n:=(n:Int)+1),bG];exact rT
def Ob.get(S:aJ)(a i:Int):Int×Int:=if(Ob.fieldAt S a i).2≠0 then(0,(Ob.fieldAt S a i).2)else(S.ws.getD (Ob.fieldAt S a i).1.toNat 0,0)
def Ob.put(S:aJ)(a i x:Int):Int×aJ:=if(Ob.fieldAt S a i).2≠0 then((Ob.fieldAt S a i).2,S)else(0,⟨S.ws.set (Ob.fieldAt S a i).1.toNat x,S.pg⟩)
theorem iC(p:Nat)(S:aJ)(cs:List aX)(hw:aY S cs)(a i:Int):Gl.Spec ρ Zp 138 [pA p,i64 a,i64 i] [aF p S cs] P2
  fun r M=>r=((Ob.get S a i).1,(Ob.get S a i).2,())∧M=[aF p S cs]:=by
 refine So (F.object.bN.Field.calls _ a i) fun R=>cE (qD p S _ hw a i)<|ag (fun h=>?_) (fun h=>?_)
 ·have h:(Ob.fieldAt S a i).2≠0:=by simpa using h
  have e:Ob.get S a i=(0,(Ob.fieldAt S a i).2):=by unfold Ob.get;rw[if_pos h]
  rw[e];exact rT
 ·have h:(Ob.fieldAt S a i).2=0:=by simpa using h
  have e:Ob.get S a i=(S.ws.getD (Ob.fieldAt S a i).1.toNat 0,0):=by unfold Ob.get;grind
  obtain⟨hd,h1,h2,h3,h4,h5,h6⟩:=Ob.gv hw h;rw[e];refine af (aF.op tk fun ps pt=>?_);refine iL<|nq _ S (Ob.fieldAt S a i).1 ae tk<|tC (aF.cl) ?_;exact rT
theorem fD(p:Nat)(S:aJ)(cs:List aX)(hw:aY S cs)(a i x:Int):Gl.Spec ρ Zp 165 [pA p,i64 a,i64 i,i64 x] [aF p S cs] R1
  fun r M=>r=(Ob.put S a i x).1∧M=[aF p (Ob.put S a i x).2 cs]:=by
 refine So (F.object.bN.Ge.calls _ a i x) fun R=>cE (qD p S _ hw a i)<|ag (fun h=>?_) (fun h=>?_)
 ·have h:(Ob.fieldAt S a i).2≠0:=by simpa using h
  have e:Ob.put S a i x=((Ob.fieldAt S a i).2,S):=by unfold Ob.put;rw[if_pos h]
  rw[e];exact rT
 ·have h:(Ob.fieldAt S a i).2=0:=by simpa using h
  have e:Ob.put S a i x=(0,⟨S.ws.set (Ob.fieldAt S a i).1.toNat x,S.pg⟩):=by unfold Ob.put;grind
  obtain⟨hd,h1,h2,h3,h4,h5,h6⟩:=Ob.gv hw h;rw[e];refine af (aF.op tk fun ps pt=>?_);refine iL<|ou _ S (Ob.fieldAt S a i).1 x (T:=bad) ae tk<|tC (aF.cl) ?_;exact rT
def Ob.final(S:aJ)(a:Int):Int×aJ:=match Ob.head S a with
 |none=>(2,S)|some h=>if h.k=4 then(5,S)else if h.f=true then(4,S)else(0,⟨S.ws.set a.toNat (Sp.fV {h with f:=true}),S.pg⟩)
theorem Sp.wZ{h:Hd}(hm:Sp.fk h=true)(hk:h.k≠4):Sp.fk {h with f:=true}=true:=by unfold Sp.fk at hm⊢;grind
theorem xJ(p:Nat)(S:aJ)(cs:List aX)(hw:aY S cs)(a:Int):Gl.Spec ρ Zp 235 [pA p,i64 a] [aF p S cs] R1
  fun r M=>r=(Ob.final S a).1∧M=[aF p (Ob.final S a).2 cs]:=by
 refine So (F.object.bN.qV.calls _ a) fun R=>cE (du p S _ hw a)<|aq fun b2=>?_;rw[EX];cases hh:Ob.head S a with
 |none=>
  have e:Ob.final S a=(2,S):=by unfold Ob.final;rw[hh]
  rw[e];refine cz rfl tk bu rfl (bg rfl ?_);exact rT
 |some hd=>
  obtain⟨n,w,rfl,_,_,g3,g4,g5⟩:=Ob.bU hw hh;have hb:=Sp.cb g3;obtain⟨k,c,ln,f⟩:=hd;have e0:Ob.final S n=if k=4 then(5,S)else if f=true then(4,S)else(0,⟨S.ws.set n (Sp.fV ⟨k,c,ln,true⟩),S.pg⟩):=by unfold Ob.final;grind
  refine cz rfl tk bu rfl (ak rfl ?_);refine lI _ 0 k<|ag (fun h1=>?_) (fun h1=>?_);·rw[e0,if_pos (by simpa using h1)];exact rT
  ·have h1:¬k=4:=by simpa using h1
   rw[if_neg h1]at e0;refine aT (x:=f) bL tk rfl<|ag (fun h2=>?_) (fun h2=>?_);·rw[e0,if_pos h2];exact rT
   ·rw[if_neg (by simp[h2])]at e0;rw[e0];refine cz (off:=3) bL tk (by simp[cH]) rfl<|aN (x:=(k,c,ln,true,())) [] rfl tk rfl<|cE (uM ⟨k,c,ln,true⟩) ?_;rw[if_pos (Sp.wZ (h:=⟨k,c,ln,f⟩) g3 h1)];refine af (aF.op tk fun ps pt=>?_);refine iL<|ou _ S _ (Sp.fV ⟨k,c,ln,true⟩) (T:=bad) ae tk<|tC (aF.cl) ?_;exact rT
def Sp.upto(n:Nat):List Int:=(List.range n).map fun j:Nat=>(j:Int)
theorem BM(n:Nat)(hn:n<2^40):Gl.Spec ρ Zp 273 [i64 n] [] RS fun r M=>r.n=n∧M=[aw r 1 ((Sp.upto n).map i64)]:=by
 refine So (F.object.all.calls n) fun R=>Tr.cg 1<|aM (fun m s M=>(fun s (j:Int)=>M=aw s 1 ((Sp.upto j.toNat).map i64)::R∧0≤j∧j≤n∧s.n=j.toNat∧m=n-j.toNat) s.1 s.2.1) n ?_ ?_;·exact⟨rfl,bu,bq,rfl,bu⟩
 ·rintro m ⟨(s:av),(j:Int),⟨⟩⟩ M ⟨rfl,h0,h1,hs,rfl⟩ X hX;dsimp only at*;refine ag (fun h=>?_) (fun h=>?_)
  ·replace h:j<(n:Int):=oT h;refine aq fun b=>?_;rw[bG];refine eu (x:=⟨oA b,1,1⟩) bJ tk (Rd.cl tk rfl rfl) rfl eV eV fun r hr=>?_;have e:(Sp.upto j.toNat).map i64++[i64 j]=(Sp.upto (j+1).toNat).map i64:=by rw[show(j+1).toNat=j.toNat+1 by omega,Sp.upto,Sp.upto,List.range_succ];simp;omega
   rw[e];exact tD (au b [i64 j])<|hX (n-(j+1).toNat) _ _ ae ⟨rfl,bq,bq,eV,rfl⟩
  ·replace h:¬j<(n:Int):=oF h;have:j.toNat=n:=by omega
   rw[this]at hs⊢;exact rT ⟨hs,rfl⟩
def Ob.refs(S:aJ)(cs:List aX)(a:Int):List Int:=match Ob.head S a with
 |none=>[]
 |some h=>if h.k=1 then(match Sp.iI cs h.c with |some c=>c.2|none=>[])else if h.k=2 then Sp.upto h.n.toNat else if h.k=4 then[2]else[]
theorem sI(p:Nat)(S:aJ)(cs:List aX)(hw:aY S cs)(a:Int):Gl.Spec ρ Zp 228 [pA p,i64 a] [aF p S cs] RS
  fun r M=>r.n=(Ob.refs S cs a).length∧M=[aw r 1 ((Ob.refs S cs a).map i64),aF p S cs]:=by
 have jb:=hw.cls;refine So (F.object.bN.Refs.calls _ a) fun R=>cE (du p S _ hw a)<|aq fun b2=>?_;rw[EX];cases hh:Ob.head S a with
 |none=>
  have e:Ob.refs S cs a=[]:=by unfold Ob.refs;rw[hh]
  rw[e];refine cz rfl tk bu rfl (bg rfl ?_);exact Tr.cg 1<|rT
 |some hd=>
  obtain⟨n,w,rfl,_,_,g3,g4,g5⟩:=Ob.bU hw hh;have hb:=Sp.cb g3;obtain⟨k,c,ln,f⟩:=hd;dsimp only at*;have e0:Ob.refs S cs n=if k=1 then(match Sp.iI cs c with |some c=>c.2|none=>[])else if k=2 then Sp.upto ln.toNat else if k=4 then[2]else[]:=by unfold Ob.refs;rw[hh]
  refine cz rfl tk bu rfl (ak rfl ?_);refine lI _ 0 k<|ag (fun h1=>?_) (fun h1=>?_)
  ·rw[if_pos (by simpa using h1)]at e0;refine aF.op tk fun ps pt=>aA (aK [au p [pA ps,pA pt],au _ [.int _ k,.int _ c,.int _ ln,.bool f]] ar ?_);refine af (hP _ _ _ ?_);refine jL ?_;cases hc:Sp.iI cs c with
   |none=>
    rw[hc]at e0;rw[e0];have hcn:=Sp.ua hc;refine cr ?_ ?_;·refine cE (iO _ _ c hcn)<|aq fun b3=>?_;rw[JO];refine iT ?_;refine lS _ 1 ⟨none,0,0⟩<|tC (aF.cl)<|Tr.cg 1 ?_;exact rT
    ·refine aq fun b3=>?_;rw[JO];first |refine cK ?_|skip
     apply cE (iO _ _ c hcn);refine iT ?_;refine lS _ 1 ⟨none,0,0⟩<|tC (aF.cl)<|Tr.cg 1 ?_;exact rT
   |some cl=>
    rw[hc]at e0;rw[e0];obtain⟨i,rfl,hci⟩:=Sp.nv hc;have hrl:=hw.refs cl (List.mem_of_getElem? hci);refine cr ?_ ?_;·refine ai (kE _ _ i _ hci jb ae) ar ?_;rintro x M ⟨q,rfl,hq,rfl⟩;refine aq fun b3=>?_;rw[JO];refine iT ?_;refine lS _ 1 q<|tC (aF.cl) ?_;exact rT ⟨hq,rfl⟩
    ·refine aq fun b3=>?_;rw[JO];first |refine cK ?_|skip
     refine ai (kE _ _ i _ hci jb ae) ar ?_;rintro x M ⟨q,rfl,hq,rfl⟩;refine iT ?_;refine lS _ 1 q<|tC (aF.cl) ?_;exact rT ⟨hq,rfl⟩
  ·have h1:¬k=1:=by simpa using h1
   rw[if_neg h1]at e0;refine ag (fun h2=>?_) (fun h2=>?_);·rw[if_pos (by simpa using h2)]at e0;rw[e0];apply lI _ 2 ln;obtain⟨lnn,rfl⟩:∃m:Nat,ln=m:=⟨ln.toNat,ae⟩;refine ai (BM _ ae) ar ?_;rintro q M ⟨hq,rfl⟩;exact rT ⟨by simp[Sp.upto,hq],rfl⟩
   ·have h2:¬k=2:=by simpa using h2
    rw[if_neg h2]at e0;refine ag (fun h3=>?_) (fun h3=>?_);·rw[if_pos (by simpa using h3)]at e0;rw[e0];exact aq fun b4=>Tr.imp (A':=aw ⟨oA b4,1,1⟩ 1 (([2]:List _).map _)) .here (aw.nI rfl)<|rT
    ·have h3:¬k=4:=by simpa using h3
     rw[if_neg h3]at e0;rw[e0];exact Tr.cg 1<|rT
structure pX where
 a:Int
 h:Hd
 ws:List Int
def yk(x:pX×av):aD:=aw x.2 1 (x.1.ws.map i64)
def jQ(x:pX×av):List Value:=[i64 x.1.a,i64 x.1.h.k,i64 x.1.h.c,i64 x.1.h.n,.bool x.1.h.f,.slice x.2.a x.2.n x.2.c]
def pL(s:av)(os:List pX):aD:=fun h=>∃l:List (pX×av),(s.n=os.length∧l.map (·.1)=os∧∀x∈l,x.2.n=x.1.ws.length)∧star [aw s 6 (l.flatMap jQ),star (l.map yk)] h
theorem pL.cl{s:av}{l:List (pX×av)}{os:List pX}(h1:s.n=os.length)(h2:l.map (·.1)=os)(h3:∀x∈l,x.2.n=x.1.ws.length)(h:HP)(H:star [aw s 6 (l.flatMap jQ),star (l.map yk)] h):pL s os h:=⟨l,⟨h1,h2,h3⟩,H⟩
def tW(ρ:FR)(s:av)(os:List pX):Prop:=s.n=os.length∧∃l:List (pX×av),l.map (·.1)=os∧fx ρ s 6 (l.flatMap jQ)∧∀x∈l,fx ρ x.2 1 (x.1.ws.map i64)∧x.2.n=x.1.ws.length
theorem nW:∀(l:List (pX×av)) {ρ:FR} {L:List aD} {T:Tree} (_:∀ρ',Le ρ ρ'→(∀x∈l,fx ρ' x.2 1 (x.1.ws.map i64))→Tr ρ0 ρ' L T Post),Tr ρ0 ρ (star (l.map yk)::L) T Post
 |[],ρ,L,T,h=>Tr.drop .here (h ρ (Le.refl _) (by simp))
 |x::l,ρ,L,T,h=>by
  refine Tr.iW (M:=fun _=>[yk x,star _]) (c:=fun _=>True) .here (fun hp H=>⟨(),trivial,eZ (fun _ h=>h) (fun _=>ye) H⟩) fun _ _=>Tr.cL .here fun ρ' hle hro=>nW l fun ρ'' hle2 hall=>h ρ'' (hle.trans hle2) ?_;intro y hy;rcases List.mem_cons.mp hy with hy|hy;·subst hy;exact hro.le hle2
  ·exact hall y hy
theorem Tr.ta{s:av}{os:List pX}(t:Take L (pL s os) L')(h:∀ρ',Le ρ ρ'→tW ρ' s os→Tr ρ0 ρ' L' T Post):Tr ρ0 ρ L T Post:=by refine Tr.iW t (fun _ h=>h) fun l hl=>Tr.cL .here fun ρ' hle hro=>nW l fun ρ'' hle2 hall=>h ρ'' (hle.trans hle2) ⟨hl.1,l,hl.2.1,hro.le hle2,fun x hx=>⟨hall x hx,hl.2.2 x hx⟩⟩
def Ob.jh(S:aJ)(a:Int):pX:=match Ob.head S a with
 |some h=>⟨a,h,(List.range h.n.toNat).map fun i:Nat=>(Ob.get S a i).1⟩|none=>⟨a,⟨0,0,0,false⟩,[]⟩
def Ob.eR(S:aJ):List pX:=(Sp.each S).map (Ob.jh S)
theorem xp:pY Zp #[41,41] 6 64=true:=by kernel_rfl
theorem LF:zc Zp 74=[.int .i64 0,.int .i64 0,.int .i64 0,.int .i64 0,.bool false,.slice none 0 0]:=by kernel_rfl
theorem ue(p:Nat)(S:aJ)(cs:List aX)(hw:aY S cs):Gl.Spec ρ Zp 67 [pA p] [aF p S cs] RS
  fun r M=>M=[pL r (Ob.eR S),aF p S cs]∧r.n=(Ob.eR S).length:=by
 have hel:=Sp.df hw.wf;refine So (F.object.bN.iQ.calls _) fun R=>ak rfl (af (aF.op tk fun ps pt=>?_));refine iL<|ai (jw _ S hw.wf) ar ?_;rintro s M ⟨hs,rfl⟩;refine tC (aF.cl) ?_;refine Tr.cL tk fun ρ' hle hro=>Tr.none<|Tr.cg 6 ?_;refine aM (fun m u M=>(fun(t:av) (i:Int)=>∃l:List (pX×av),M=aw t 6 (l.flatMap jQ)::star (l.map yk)::aF p S cs::R∧0≤i∧i≤(Sp.each S).length∧m=(Sp.each S).length-i.toNat∧t.n=i.toNat∧
   l.map (·.1)=((Sp.each S).take i.toNat).map (Ob.jh S)∧∀x∈l,x.2.n=x.1.ws.length) u.1 u.2.1) (Sp.each S).length ?_ ?_;·exact⟨[],rfl,bu,bu,bu,rfl,bu,bu⟩
 ·rintro m ⟨(t:av),(i:Int),⟨⟩⟩ M ⟨l,rfl,h0,h1,rfl,htn,hl,hln⟩ X hX;dsimp only at*;refine ag (fun h=>?_) (fun h=>?_)
  ·replace h:i<(s.n:Int):=oT h;have hi:i.toNat<(Sp.each S).length:=by omega
   refine bz hro h0 h fun a0 ha=>cu ha hro fX (getD_map hi) ?_;have hmem:(Sp.each S).getD i.toNat 0∈Sp.each S:=by grind
   have htk:=aE 0 hi;generalize(Sp.each S).getD i.toNat 0=a at hmem htk⊢;obtain⟨n,rfl,hn,w,hf,w1,w2,w3⟩:=Sp.jD hw.wf hmem;obtain⟨hd,hm,hwd,hfit⟩:=hw.obj n w hf;have hb:=Sp.cb hm;have hhd:Ob.head S n=some hd:=by unfold Ob.head;rw[hf];dsimp only;rw[if_pos rfl,hwd,Sp.jc hm]
   obtain⟨ln,hln2⟩:∃ln:Nat,hd.n=ln:=⟨hd.n.toNat,ae⟩;refine aq fun b8=>?_;rw[LF];refine iT ?_;apply cE (du p S _ hw n);rw[hhd];apply cz (off:=1) bL tk (by simp[cH]) rfl;have e8:cH (cH [.int .i64 0,.int .i64 0,.int .i64 0,.int .i64 0,.bool false,.slice none 0 0] 0 [.int .i64 (n:Int),.int .i64 0,.int .i64 0,.int .i64 0,.bool false,.slice none 0 0]) 1
     [.int .i64 (Ob.jX (some hd)).1.1,.int .i64 (Ob.jX (some hd)).1.2.1,.int .i64 (Ob.jX (some hd)).1.2.2.1,.bool (Ob.jX (some hd)).1.2.2.2.1]=[i64 n,i64 hd.k,i64 hd.c,i64 ln,.bool hd.f,.slice none 0 0]:=by rw[←hln2];rfl
   rw[e8];refine aT bL tk rfl<|Tr.cg 1<|Tr.take (A:=au _ [i64 n,i64 hd.k,i64 hd.c,i64 ln,.bool hd.f,.slice _ 0 0]) tk ?_;refine aM (fun m u M=>(fun(j:Int)=>∃q:av,M=au b8 [i64 n,i64 hd.k,i64 hd.c,i64 ln,.bool hd.f,.slice q.a q.n q.c]::aw q 1 (((List.range j.toNat).map fun i:Nat=>(Ob.get S n i).1).map i64)::aF p S cs::aw t 6 (l.flatMap jQ)::star (l.map yk)::R∧
     0≤j∧j≤ln∧m=ln-j.toNat∧q.n=j.toNat) u.1) ln ?_ ?_;·grind
   ·rintro m ⟨(j:Int),⟨⟩⟩ M ⟨q,rfl,j0,j1,rfl,hq⟩ Y hY;refine ag (fun h2=>?_) (fun h2=>?_)
    ·replace h2:j<(ln:Int):=oT h2;apply cE (iC p S _ hw n j);refine iL<|aq fun b=>eu (x:=⟨oA b,1,1⟩) (ys:=[i64 (Ob.get S n j).1]) bJ tk (Rd.cl tk rfl rfl) rfl eV eV fun r hr=>cz (off:=5) bL tk bu rfl ?_;have e:((List.range j.toNat).map fun i:Nat=>(Ob.get S n i).1).map i64++[i64 (Ob.get S n j).1]=((List.range (j+1).toNat).map fun i:Nat=>(Ob.get S n i).1).map i64:=by rw[show(j+1).toNat=j.toNat+1 by omega,List.range_succ,List.map_append,List.map_append];grind
     rw[e];refine tD (au b [i64 (Ob.get S n j).1]) ?_;rw[bG];exact hY _ _ _ ae ⟨r,rfl,bq,bq,rfl,eV⟩
    ·replace h2:¬j<(ln:Int):=oF h2;have hjl:j.toNat=ln:=by omega
     rw[hjl]at hq⊢;refine iG<|aq fun b9=>?_;refine eu (x:=⟨oA b9,1,1⟩) (ys:=[i64 n,i64 hd.k,i64 hd.c,i64 ln,.bool hd.f,.slice q.a q.n q.c]) xp tk (Rd.cl tk rfl rfl) rfl eV eV fun r hr=>?_;have hat:Ob.jh S n=⟨n,hd,(List.range ln).map fun i:Nat=>(Ob.get S n i).1⟩:=by unfold Ob.jh;grind
     have hfl:l.flatMap jQ++[i64 n,i64 hd.k,i64 hd.c,i64 ln,.bool hd.f,.slice q.a q.n q.c]=(l++[(Ob.jh S n,q)]).flatMap jQ:=by rw[List.flatMap_append,List.flatMap_cons,List.flatMap_nil,List.append_nil,hat];simp only[jQ,hln2]
     rw[hfl];refine Tr.imp (A:=star _) (A':=star ((l++([]:List _)).map yk)) tk bu ?_;have hw2:((List.range ln).map fun i:Nat=>(Ob.get S n i).1)=(Ob.jh S n).ws:=by rw[hat]
     rw[hw2];refine Tr.close (A:=star _) ar (fun h H=>dR (P:=yk) (x:=(Ob.jh S n,q)) h H)<|tD (au _ [i64 n,i64 hd.k,i64 hd.c,i64 ln,.bool hd.f,.slice _ _ q.c]) ?_;refine tD (au _ [i64 n,i64 hd.k,i64 hd.c,i64 ln,.bool hd.f,.slice _ _ q.c]) ?_;refine Tr.take (A:=aw r 6 _) tk ?_;rw[bG];refine hX ((Sp.each S).length-(i+1).toNat) _ _ ae ⟨l++[(Ob.jh S n,q)],rfl,bq,bq,rfl,eV,?_,?_⟩;·grind
     grind
  ·replace h:¬i<(s.n:Int):=oF h;have hie:i.toNat=(Sp.each S).length:=by omega
   rw[hie,List.take_length]at hl;have htl:t.n=(Ob.eR S).length:=by rw[htn,hie];simp[Ob.eR]
   exact Tr.close ar (pL.cl htl hl hln)<|rT ⟨rfl,htl⟩
theorem ft{ws:List Int}{i j:Nat}{x:Int}(h:i≠j):(ws.set i x).getD j 0=ws.getD j 0:=by grind
theorem qT{ws:List Int}{i:Nat}{x:Int}(h:i<ws.length):(ws.set i x).getD i 0=x:=by grind
theorem nO{ws:List Int}{i n j:Nat}(h:i+n≤ws.length):(Sp.iu ws i n).getD j 0=if i≤j∧j<i+n then 0 else ws.getD j 0:=by unfold Sp.iu;grind
theorem xy{S S':aJ}(hw:Wf S)(hw':Wf S'){p:Nat}(h:∀j k:Nat,j≤p→p<j+k→(S.pg[j]? =some (.head k)↔S'.pg[j]? =some (.head k))):Sp.own S.pg p=Sp.own S'.pg p:=by
 cases h1:Sp.own S.pg p with
 |some x=>obtain⟨g1,g2,g3⟩:=Sp.vr h1;rw[Sp.ov hw' ((h _ _ g2 g3).mp g1) ⟨g2,g3⟩]
 |none=>
  cases h2:Sp.own S'.pg p with
  |none=>rfl
  |some x=>obtain⟨g1,g2,g3⟩:=Sp.vr h2;rw[Sp.ov hw ((h _ _ g2 g3).mpr g1) ⟨g2,g3⟩]at h1;cases h1
theorem qe{S:aJ}(hw:Wf S){p:Nat}(h:S.pg[p]? =some .free):Sp.own S.pg p=none:=by
 refine Sp.uZ fun j k hj hp=>?_;rcases Nat.lt_or_ge j p with c|c;·have:=(hw.head _ _ hj).2.2.2 p c hp.2;grind
 grind
theorem th{S S':aJ}(hw:Wf S)(hw':Wf S')(hl:S'.ws.length=S.ws.length){m:Nat}(hp:S'.pg[m/64]? =S.pg[m/64]?)(ho:Sp.own S'.pg (m/64)=Sp.own S.pg (m/64)):Sp.find S' m=Sp.find S m:=by unfold Sp.find;grind
theorem kp{S:aJ}{ws:List Int}(hl:ws.length=S.ws.length)(a:Int):Sp.find ⟨ws,S.pg⟩ a=Sp.find S a:=by unfold Sp.find;rw[hl]
theorem Ar{S:aJ}(hw:Wf S){w:Int}(h:(Sp.alloc S w).2.1=0):∃a n:Nat,(Sp.alloc S w).1=a∧Sp.au w=n∧2≤n∧n≤1024∧a+n≤S.ws.length∧(Sp.alloc S w).2.2.ws=Sp.iu S.ws a n∧
  (∀m:Nat,Sp.find (Sp.alloc S w).2.2 m=if a≤m∧m<a+n then some (a,n)else Sp.find S m)∧∀m:Nat,a≤m→m<a+n→Sp.find S m=none:=by
 obtain⟨a,n,h1,h2,h3,h4,h5,h6,h7⟩:=Sp.uO hw h;have hw':=Sp.yA hw w;refine⟨a,n,h1,h2,h3,h4,h5,h6,?_⟩;have hb:Sp.au w≠0:=by omega
 have hpl:(Sp.place S.pg w).2.1=0∧(Sp.alloc S w).2.2.pg=(Sp.place S.pg w).2.2∧(Sp.place S.pg w).1=(Sp.alloc S w).1:=by unfold Sp.alloc at h⊢;grind
 obtain⟨p1,p2,p3⟩:=hpl;generalize(Sp.alloc S w).2.2=S' at h6 h7 hw' p2⊢;rcases Sp.nQ hw hb with e|⟨i,k,_,_,k1,k2,k3,k4,k5,e⟩|⟨c,i,k,l,_,c1,c2,c3,c4,c5,c6,c7,e⟩;·rw[e]at p1;cases p1
 ·rw[e]at p2 p3;have hnone:∀m:Nat,a≤m→m<a+n→Sp.find S m=none:=fun m g1 g2=>by have hf:=k5 (m/64) ae ae;rw[Sp.fb ae (fun c l hc=>by rw[hf]at hc;cases hc),qe hw hf];rfl
  refine⟨fun m=>?_,hnone⟩;by_cases hm:a≤m∧m<a+n
  ·have hi:S'.pg[i]? =some (.head k):=by rw[p2,dL,if_pos ae,if_pos rfl]
   rw[Sp.fb (by omega) (fun c l hc=>by rw[p2,dL,if_pos ae]at hc;grind),Sp.ov hw' hi (by omega)];grind
  ·rw[if_neg hm];have hoff:¬(i≤m/64∧m/64<i+k):=by omega
   refine th hw hw' h7 (by rw[p2,jd k1 hoff])<|xy hw' hw fun j k' g1 g2=>?_;rw[p2];by_cases hj:i≤j∧j<i+k;·rw[k5 j hj.1 hj.2,dL,if_pos ae];grind
   ·rw[jd k1 hj]
 ·rw[e]at p2 p3;obtain⟨f1,f2,f3⟩:=m9 c1 c6 c5;have ha:a=i*64+k*Sp.sz c:=by omega
  have hn:n=Sp.sz c:=by omega
  have hi':S'.pg[i]? =some (.small c (l.set k true)):=by grind
  have nh:∀k,S.pg[i]? ≠some (.head k):=by intro k h;rcases c4 with h'|⟨h',_⟩<;>rw[h']at h<;>cases h
  have hidx:∀m:Nat,m/64=i→((a≤m∧m<a+n)↔m%64/Sp.sz c=k):=fun m hm=>by
   have hd:=Nat.div_add_mod (m%64) (Sp.sz c);have hlt:=Nat.mod_lt (m%64) (show 0<Sp.sz c by omega);constructor
   ·rintro⟨g1,g2⟩;have hx:k*Sp.sz c≤m%64∧m%64<k*Sp.sz c+Sp.sz c:=by omega
    have:=Nat.div_le_div_right (c:=Sp.sz c) hx.1;rw[Nat.mul_div_cancel _ ae]at this;have h2:m%64/Sp.sz c<k+1:=(Nat.div_lt_iff_lt_mul ae).mpr (by rw[Nat.add_mul];omega);omega
   ·intro g;rw[g]at hd;grind
  have hfS:∀m:Nat,m<S.ws.length→m/64=i→Sp.find S m=if l.getD (m%64/Sp.sz c) false then some (m/64*64+m%64/Sp.sz c*Sp.sz c,Sp.sz c)else none:=fun m hml hm=>by
   rcases c4 with h'|⟨h',hl2,_⟩;·rw[Sp.gn hml (by rw[hm];exact h')]
   ·rw[Sp.fb hml (fun c l hc=>by grind),hm,qe hw h',hl2];grind
  refine⟨fun m=>?_,fun m g1 g2=>?_⟩
  ·by_cases hml:m<S.ws.length
   ·by_cases hm:m/64=i
    ·rw[Sp.gn ae (by rw[hm];exact hi'),hfS m hml hm];by_cases hk:m%64/Sp.sz c=k;·simp_all
     ·rw[if_neg (fun h=>hk ((hidx m hm).mp h)),List.getD_eq_getElem?_getD,List.getElem?_set_ne (fun e=>hk e.symm),List.getD_eq_getElem?_getD]
    ·rw[if_neg ae];refine th hw hw' h7 eV<|xy hw' hw fun j k' g1 g2=>?_;rw[p2];exact(k8 nh (fun k h=>by cases h) j k').symm
   ·rw[if_neg ae,Sp.iH ae,Sp.iH ae]
  ·rw[hfS m ae ae,(hidx m ae).mp ⟨g1,g2⟩,c7];rfl
theorem nm{S:aJ}(hw:Wf S){a w:Nat}(h:Sp.find S a=some (a,w)){m:Nat}(h1:a≤m)(h2:m<a+w):Sp.find S m=some (a,w):=by
 have hlen:=hw.len;obtain⟨hn,hcase⟩:=Sp.l5 hw h rfl;rcases hcase with ⟨c,l,k,g1,g2,g3,g4,g5,g6,g7⟩|⟨k,g1,g2,g3⟩
 ·have hk:k<l.length:=by grind
  obtain⟨f1,f2,f3⟩:=m9 g2 hk g3;have hm:m/64=a/64:=by omega
  have hx:k*Sp.sz c≤m%64∧m%64<k*Sp.sz c+Sp.sz c:=by omega
  have hidx:m%64/Sp.sz c=k:=by have t1:=Nat.div_le_div_right (c:=Sp.sz c) hx.1;rw[Nat.mul_div_cancel _ ae]at t1;have t2:m%64/Sp.sz c<k+1:=(Nat.div_lt_iff_lt_mul ae).mpr (by rw[Nat.add_mul];omega);omega
  rw[Sp.gn ae (by rw[hm];exact g1),hidx,g5,if_pos rfl,hm,←g6,g7]
 ·obtain⟨k1,k2,k3,k4⟩:=hw.head _ _ g1;have hns:∀c l,S.pg[m/64]? ≠some (.small c l):=fun c l hc=>by grind
  rw[Sp.fb ae hns,Sp.ov hw g1 ae,Option.map_some,g3,←g2]
theorem aY.zV{S:aJ}{cs:List aX}(hw:aY S cs){i:Nat}{x:Int}(h:∀w:Nat,Sp.find S i=some (i,w)→∃h:Hd,Sp.fk h=true∧x=Sp.fV h∧h.n+1≤(w:Int)):aY ⟨S.ws.set i x,S.pg⟩ cs:=by
 have hl:(S.ws.set i x).length=S.ws.length:=by simp
 refine⟨⟨by simp[hw.wf.len],hw.wf.fF,hw.wf.pos,hw.wf.res,hw.wf.small,hw.wf.head,hw.wf.tail⟩,fun n w hf=>?_,hw.cls,hw.refs⟩;rw[kp hl]at hf;by_cases hni:i=n;·have hn:=(Sp.l5 hw.wf hf rfl).1;grind
 ·obtain⟨hd,h1,h2,h3⟩:=hw.obj n w hf;grind
theorem aY.put{S:aJ}{cs:List aX}(hw:aY S cs)(a i x:Int):aY (Ob.put S a i x).2 cs:=by
 unfold Ob.put;split;·exact hw
 ·rename_i h;have h:(Ob.fieldAt S a i).2=0:=by simpa using h
  obtain⟨hd,h1,h2,h3,h4,h5,h6⟩:=Ob.gv hw h;obtain⟨n,w,rfl,f1,f2,f3,f4,f5⟩:=Ob.bU hw h1;refine hw.zV fun w' hf=>?_;have:=nm hw.wf f1 (m:=(Ob.fieldAt S n i).1.toNat) ae ae;grind
theorem aY.final{S:aJ}{cs:List aX}(hw:aY S cs)(a:Int):aY (Ob.final S a).2 cs:=by
 unfold Ob.final;split;·exact hw
 ·rename_i h hh;obtain⟨n,w,rfl,f1,f2,f3,f4,f5⟩:=Ob.bU hw hh;split;·exact hw
  ·rename_i hk;split;·exact hw
   ·rw[Int.toNat_natCast];refine hw.zV fun w' hf=>?_;rw[f1]at hf;injection hf with hf;injection hf with _ hf;subst hf;exact⟨_,Sp.wZ f3 hk,rfl,f4⟩
theorem K6{w:Int}(h:Sp.au w≠0):w≤Sp.au w:=by
 by_cases hc:Sp.cls w<0;·obtain⟨k1,k2,k3⟩:=Sp.sR h hc;rw[k3];unfold Sp.pj at k1⊢;omega
 ·unfold Sp.au;rcases Sp.kX w with ⟨_,e⟩|⟨_,h2,e⟩|⟨_,h2,e⟩|⟨_,h2,e⟩|⟨_,h2,e⟩|⟨_,h2,e⟩|⟨_,e⟩<;>rw[e]at hc⊢;·omega
  ·exact h2
  ·exact h2
  ·exact h2
  ·exact h2
  ·exact h2
  ·omega
theorem Ob.l6{S:aJ}{cs:List aX}(hw:aY S cs){h:Hd}(h0:(Ob.make S cs h).2.1=0):∃a n:Nat,(Ob.make S cs h).1=a∧Ob.may cs h=0∧Sp.au (h.n+1)=n∧h.n+1≤(n:Int)∧a+n≤S.ws.length∧(Ob.make S cs h).2.2.ws=(Sp.iu S.ws a n).set a (Sp.fV h)∧
  (∀m:Nat,Sp.find (Ob.make S cs h).2.2 m=if a≤m∧m<a+n then some (a,n)else Sp.find S m)∧(∀m:Nat,a≤m→m<a+n→Sp.find S m=none)∧aY (Ob.make S cs h).2.2 cs:=by
 unfold Ob.make at h0⊢;split at h0;·grind
 ·rename_i h1;rw[if_neg h1];have h1:Ob.may cs h=0:=by simpa using h1
  split at h0;·grind
  ·rename_i h2;rw[if_neg h2];have h2:(Sp.alloc S (h.n+1)).2.1=0:=by simpa using h2
   obtain⟨a,n,e1,e2,e3,e4,e5,e6,e7,e8⟩:=Ar hw.wf h2;have hwa:=Sp.yA hw.wf (h.n+1);have hge:=K6 (w:=h.n+1) ae;have hlen:(Sp.alloc S (h.n+1)).2.2.ws.length=S.ws.length:=by rw[e6];exact lY e5
   have hfind:∀m:Nat,Sp.find ⟨(Sp.alloc S (h.n+1)).2.2.ws.set a (Sp.fV h),(Sp.alloc S (h.n+1)).2.2.pg⟩ m=if a≤m∧m<a+n then some (a,n)else Sp.find S m:=fun m=>by rw[kp bu];exact e7 m
   refine⟨a,n,e1,h1,e2,ae,e5,eV,?_,e8,?_⟩;·grind
   ·rw[e1,Int.toNat_natCast];refine⟨⟨by simp[hwa.len],hwa.fF,hwa.pos,hwa.res,hwa.small,hwa.head,hwa.tail⟩,fun m w hf=>?_,hw.cls,hw.refs⟩;rw[hfind]at hf;by_cases hm:a≤m∧m<a+n;·rw[if_pos hm]at hf;injection hf with hf;injection hf with f1 f2;exact⟨h,(Ob.nR h1).1,eV,ae⟩
    ·rw[if_neg hm]at hf;obtain⟨hd,g1,g2,g3⟩:=hw.obj m w hf;refine⟨hd,g1,?_,g3⟩;rw[ft ae,e6,nO e5,if_neg hm];exact g2
theorem aY.make{S:aJ}{cs:List aX}(hw:aY S cs)(h:Hd):aY (Ob.make S cs h).2.2 cs:=by
 by_cases h0:(Ob.make S cs h).2.1=0;·obtain⟨_,_,_,_,_,_,_,_,_,_,r⟩:=Ob.l6 hw h0;exact r
 ·unfold Ob.make at h0⊢;grind
theorem rY{n:Nat}(h0:1≤n)(a:Int):Sp.find (Sp.ch n) a=none:=by
 unfold Sp.find;split
 ·have hno:∀(i:Nat) (x:Pg),(Sp.ch n).pg[i]? =some x→x= .res∨x= .free:=fun i x h=>by unfold Sp.ch at h;grind
  split;·grind
  ·rw[Sp.uZ fun j k h=>by grind];rfl
 ·rfl
theorem BO{n:Nat}(h0:1≤n)(h1:n≤256):aY (Sp.ch n) []:=
 ⟨Sp.DV h0 h1,fun m w h=>by(rw[rY h0]at h;cases h),by simp,by simp⟩
theorem xI(S:aJ)(a i x:Int):∃ws',(Ob.put S a i x).2=⟨ws',S.pg⟩∧ws'.length=S.ws.length:=by
 unfold Ob.put;split;·grind
 simp
theorem Ob.eb{S:aJ}{a i:Int}{h:Hd}(hh:Ob.head S a=some h)(h0:0≤i)(h1:i<h.n):Ob.get S a i=(S.ws.getD (a+1+i).toNat 0,0):=by
 have e:Ob.fieldAt S a i=(a+1+i,0):=by unfold Ob.fieldAt;grind
 unfold Ob.get;rw[e,if_neg bu]
theorem Ob.jE{S:aJ}{cs:List aX}(hw:aY S cs){h:Hd}(h0:(Ob.make S cs h).2.1=0):Ob.head (Ob.make S cs h).2.2 (Ob.make S cs h).1=some h:=by
 obtain⟨a,n,e1,e2,e3,e4,e5,e6,e7,e8,e9⟩:=Ob.l6 hw h0;have hb:=Sp.cb (Ob.nR e2).1;have hf:Sp.find (Ob.make S cs h).2.2 a=some (a,n):=by grind
 unfold Ob.head;rw[e1,hf];dsimp only;rw[if_pos rfl,e6,qT (by rw[lY e5];omega),Sp.jc (Ob.nR e2).1]
theorem Ob.o4{S:aJ}{cs:List aX}(hw:aY S cs){h:Hd}(h0:(Ob.make S cs h).2.1=0){i:Int}(i0:0≤i)(i1:i<h.n):Ob.get (Ob.make S cs h).2.2 (Ob.make S cs h).1 i=(0,0):=by rw[Ob.eb (Ob.jE hw h0) i0 i1];obtain⟨a,n,e1,e2,e3,e4,e5,e6,e7,e8,e9⟩:=Ob.l6 hw h0;rw[e1,e6,ft ae,nO e5,if_pos ⟨ae,ae⟩]
set_option maxRecDepth 100000
def F.m7.Mn(p0:Int):Tree:=ret (i64 p0)
theorem F.m7.Mn.calls(p0:Int):Cf 13 [i64 p0] (F.m7.Mn p0):=Tryz.cd az.z Tryz.func13
end
section
open Go Go.Gl
set_option maxRecDepth 100000
def F.ah.od.T:az:=⟨(fun|4=>[(5,kI)]|_=>[]),fun _=>none,(fun|6=> .quiet|_=> .quiet)⟩
def F.ah.od(p0 p1:av):Tree:=br (((p0.n:Nat):Int) != (p1.n:Nat)) (ret (.bool false)) (lp [kI] (fun X1 u2=>br (decide ((u2.1:Int)<(p0.n:Nat))) (cD<|ix p0.a p0.n u2.1 1 fun a3=>dI a3 fun x4=>ix p1.a p1.n u2.1 1 fun a5=>dI a5 fun x6=>br ((x4:Int) != x6) (ret (.bool false)) (X1 (IntKind.wrap .i64 (u2.1+1),()))) (ret (.bool true))) (0,()))
theorem F.ah.od.calls(p0 p1:av):Cf 31 [sV p0,sV p1] (F.ah.od p0 p1):=Tryz.cd F.ah.od.T Tryz.func31
def F.ah.In.T:az:=⟨(fun|2=>[(5,kI)]|_=>[]),fun _=>none,fun _=> .quiet⟩
def F.ah.In(p0:av)(p1:Int):Tree:=lp [kI] (fun X1 u2=>br (decide ((u2.1:Int)<(p0.n:Nat))) (ix p0.a p0.n u2.1 1 fun a3=>dI a3 fun x4=>br ((x4:Int)==p1) (ret (.bool true)) (X1 (IntKind.wrap .i64 (u2.1+1),()))) (ret (.bool false))) (0,())
theorem F.ah.In.calls(p0:av)(p1:Int):Cf 33 [sV p0,i64 p1] (F.ah.In p0 p1):=Tryz.cd F.ah.In.T Tryz.func33
def F.ah.Block(p0:Int):Tree:=cI 81 [i64 p0] fun r1=>br (decide ((r1:Int)≥0)) (cS 82 [] fun r2=>ix r2.a r2.n r1 1 fun a3=>dI a3 fun x4=>ret (i64 x4)) (br (decide ((p0:Int)<1)) (ret (i64 0)) (br (decide ((p0:Int)>1024)) (ret (i64 0)) (dE ((64:Int)≠0)<|ret (i64 (IntKind.wrap .i64 ((IntKind.wrap .i64 (Int.tdiv (IntKind.wrap .i64 ((IntKind.wrap .i64 (p0+64))-1)) 64))*64))))))
theorem F.ah.Block.calls(p0:Int):Cf 34 [i64 p0] (F.ah.Block p0):=Tryz.cd az.z Tryz.func34
def F.ah.aV.Used.T:az:=⟨(fun|4=>[(3,kI),(5,kI)]|_=>[]),fun _=>none,fun _=> .quiet⟩
def F.ah.aV.Used(p0:OA):Tree:=cS 64 [pV p0] fun r1=>lp [kI,kI] (fun X2 u3=>br (decide ((u3.2.1:Int)<(r1.n:Nat))) (ix r1.a r1.n u3.2.1 1 fun a4=>dI a4 fun x5=>cG 135 [pV p0,i64 x5] [kI,kI,.bool] fun r6=>X2 (IntKind.wrap .i64 (u3.1+r6.2.1),IntKind.wrap .i64 (u3.2.1+1),())) (ret (i64 u3.1))) (0,0,())
theorem F.ah.aV.Used.calls(p0:OA):Cf 62 [pV p0] (F.ah.aV.Used p0):=Tryz.cd F.ah.aV.Used.T Tryz.func62
def F.ah.aV.Cap(p0:OA):Tree:=nn p0 fun a1=>dS (fa a1 1) fun x2=>ret (i64 (IntKind.wrap .i64 ((IntKind.wrap .i64 ((x2.n:Nat)-1))*64)))
theorem F.ah.aV.Cap.calls(p0:OA):Cf 63 [pV p0] (F.ah.aV.Cap p0):=Tryz.cd az.z Tryz.func63
def F.ah.aV.tZ.T:az:=⟨(fun|3=>[(3,.slice),(4,kI)]|8=>[(3,.slice),(5,kI)]|_=>[]),fun _=>none,(fun|11=> .held (some 17) (gF [0,1,2,3,5,6,7,8,9,10,11,12,4] (.cut (gF [13,14,15,16] (.go 17 true (gF [18,19] .nil)))))|_=> .quiet)⟩
def F.ah.aV.tZ(p0:OA):Tree:=lp [.slice,kI] (fun X1 u2=>nn p0 fun a3=>dS (fa a3 1) fun x4=>br (decide ((u2.2.1:Int)<(x4.n:Nat))) (nn p0 fun a5=>dS (fa a5 1) fun x6=>ix x6.a x6.n u2.2.1 1 fun a7=>dI a7 fun x8=>br ((x8:Int)==6) (nw 3 [i64 (IntKind.wrap .i64 (u2.2.1*64))] fun b9=>ap 43 (sV u2.1) (.slice (some ⟨b9,0,none⟩) 1 1) fun r10=>lp [.slice,kI] (fun X11 u12=>nn p0 fun a13=>dS (fa a13 3) fun x14=>ix x14.a x14.n u2.2.1 1 fun a15=>dS a15 fun x16=>br (decide ((u12.2.1:Int)<(x16.n:Nat))) (nn p0 fun a17=>dS (fa a17 3) fun x18=>ix x18.a x18.n u2.2.1 1 fun a19=>dS a19 fun x20=>ix x20.a x20.n u12.2.1 1 fun a21=>dB a21 fun x22=>br x22 (cD<|Gl.held fun S23=>nn p0 fun a24=>eS S23 (fa a24 1) fun x25=>ix x25.a x25.n u2.2.1 1 fun a26=>eI S23 a26 fun x27=>cS 82 [] fun r28=>aZ S23<|narrow S23 fun S29=>ix r28.a r28.n (IntKind.wrap .i64 (x27-1)) 1 fun a30=>eI S29 a30 fun x31=>nw 3 [i64 (IntKind.wrap .i64 ((IntKind.wrap .i64 (u2.2.1*64))+(IntKind.wrap .i64 (u12.2.1*x31))))] fun b32=>ap 43 (sV u12.1) (.slice (some ⟨b32,0,none⟩) 1 1) fun r33=>X11 (r33,IntKind.wrap .i64 (u12.2.1+1),())) (X11 (u12.1,IntKind.wrap .i64 (u12.2.1+1),()))) (X1 (u12.1,IntKind.wrap .i64 (u2.2.1+1),()))) (r10,0,())) (lp [.slice,kI] (fun X9 u10=>nn p0 fun a11=>dS (fa a11 3) fun x12=>ix x12.a x12.n u2.2.1 1 fun a13=>dS a13 fun x14=>br (decide ((u10.2.1:Int)<(x14.n:Nat))) (nn p0 fun a15=>dS (fa a15 3) fun x16=>ix x16.a x16.n u2.2.1 1 fun a17=>dS a17 fun x18=>ix x18.a x18.n u10.2.1 1 fun a19=>dB a19 fun x20=>br x20 (cD<|Gl.held fun S21=>nn p0 fun a22=>eS S21 (fa a22 1) fun x23=>ix x23.a x23.n u2.2.1 1 fun a24=>eI S21 a24 fun x25=>cS 82 [] fun r26=>aZ S21<|narrow S21 fun S27=>ix r26.a r26.n (IntKind.wrap .i64 (x25-1)) 1 fun a28=>eI S27 a28 fun x29=>nw 3 [i64 (IntKind.wrap .i64 ((IntKind.wrap .i64 (u2.2.1*64))+(IntKind.wrap .i64 (u10.2.1*x29))))] fun b30=>ap 43 (sV u10.1) (.slice (some ⟨b30,0,none⟩) 1 1) fun r31=>X9 (r31,IntKind.wrap .i64 (u10.2.1+1),())) (X9 (u10.1,IntKind.wrap .i64 (u10.2.1+1),()))) (X1 (u10.1,IntKind.wrap .i64 (u2.2.1+1),()))) (u2.1,0,()))) (ret (sV u2.1))) (⟨none,0,0⟩,0,())
theorem F.ah.aV.tZ.calls(p0:OA):Cf 64 [pV p0] (F.ah.aV.tZ p0):=Tryz.cd F.ah.aV.tZ.T Tryz.func64
def F.ah.Class.T:az:=⟨(fun|3=>[(4,kI)]|_=>[]),fun _=>none,fun _=> .quiet⟩
def F.ah.Class(p0:Int):Tree:=cS 82 [] fun r1=>lp [kI] (fun X2 u3=>br (decide ((u3.1:Int)<(r1.n:Nat))) (br (decide ((p0:Int)≥1)) (ix r1.a r1.n u3.1 1 fun a4=>dI a4 fun x5=>br (decide ((x5:Int)≥p0)) (ret (i64 u3.1)) (X2 (IntKind.wrap .i64 (u3.1+1),()))) (ret (i64 (-1)))) (ret (i64 (-1)))) (0,())
theorem F.ah.Class.calls(p0:Int):Cf 81 [i64 p0] (F.ah.Class p0):=Tryz.cd F.ah.Class.T Tryz.func81
def F.ah.vn:Tree:=nw 3 [i64 2,i64 4,i64 8,i64 16,i64 32] fun b1=>ret (.slice (some ⟨b1,0,none⟩) 5 5)
theorem F.ah.vn.calls:Cf 82 [] (F.ah.vn):=Tryz.cd az.z Tryz.func82
def F.ah.mB.T:az:=⟨fun _=>[],(fun|2=>some [(3,.adr)]|_=>none),(fun|1=> .held (some 4) (gF [0,1,3,5,7] (.two (gF [2] (.two (.go 4 true (.two (gF [6,8,9,10,11] .nil) (gF [8,6,9,10,11] .nil))) (.two (gF [6] (.two (.go 4 true (gF [8,9,10,11] .nil)) (gF [8] (.go 4 true (gF [9,10,11] .nil))))) (gF [8] (.two (.go 4 true (gF [6,9,10,11] .nil)) (gF [6] (.go 4 true (gF [9,10,11] .nil)))))))) (.two (.go 4 true (.two (gF [2] (.two (gF [6,8,9,10,11] .nil) (gF [8,6,9,10,11] .nil))) (.two (gF [6] (.two (gF [2,8,9,10,11] .nil) (gF [8,2,9,10,11] .nil))) (gF [8] (.two (gF [2,6,9,10,11] .nil) (gF [6,2,9,10,11] .nil)))))) (.two (gF [6] (.two (gF [2] (.two (.go 4 true (gF [8,9,10,11] .nil)) (gF [8] (.go 4 true (gF [9,10,11] .nil))))) (.two (.go 4 true (.two (gF [2,8,9,10,11] .nil) (gF [8,2,9,10,11] .nil))) (gF [8] (.two (gF [2] (.go 4 true (gF [9,10,11] .nil))) (.go 4 true (gF [2,9,10,11] .nil))))))) (gF [8] (.two (gF [2] (.two (.go 4 true (gF [6,9,10,11] .nil)) (gF [6] (.go 4 true (gF [9,10,11] .nil))))) (.two (.go 4 true (.two (gF [2,6,9,10,11] .nil) (gF [6,2,9,10,11] .nil))) (gF [6] (.two (gF [2] (.go 4 true (gF [9,10,11] .nil))) (.go 4 true (gF [2,9,10,11] .nil)))))))))))|_=> .quiet)⟩
def F.ah.mB(p0:Int):Tree:=jn (fun(j2:LTs [.adr])=>dS (fa j2.1 1) fun x3=>ix x3.a x3.n 0 1 fun a4=>st a4 [i64 (-1)]<|ret (pV (some j2.1))) fun J1=>cD<|Gl.held fun S5=>both (cM Zp (Instr.makeSlice 43 (i64 (IntKind.wrap .i64 (p0*64))) (i64 (IntKind.wrap .i64 (p0*64)))) (.one (.l .slice)) fun(r6:av)=>aZ S5<|both (cM Zp (Instr.makeSlice 43 (i64 p0) (i64 p0)) (.one (.l .slice)) fun(r7:av)=>both (cM Zp (Instr.makeSlice 43 (i64 p0) (i64 p0)) (.one (.l .slice)) fun(r8:av)=>cM Zp (Instr.makeSlice 174 (i64 p0) (i64 p0)) (.one (.l .slice)) fun(r9:av)=>nw 176 [sV r6,sV r7,sV r8,sV r9] fun b10=>J1 (⟨b10,0,none⟩,())) (cM Zp (Instr.makeSlice 174 (i64 p0) (i64 p0)) (.one (.l .slice)) fun(r11:av)=>cM Zp (Instr.makeSlice 43 (i64 p0) (i64 p0)) (.one (.l .slice)) fun(r12:av)=>nw 176 [sV r6,sV r7,sV r12,sV r11] fun b13=>J1 (⟨b13,0,none⟩,()))) (both (cM Zp (Instr.makeSlice 43 (i64 p0) (i64 p0)) (.one (.l .slice)) fun(r14:av)=>aZ S5<|both (cM Zp (Instr.makeSlice 43 (i64 p0) (i64 p0)) (.one (.l .slice)) fun(r15:av)=>cM Zp (Instr.makeSlice 174 (i64 p0) (i64 p0)) (.one (.l .slice)) fun(r16:av)=>nw 176 [sV r6,sV r15,sV r14,sV r16] fun b17=>J1 (⟨b17,0,none⟩,())) (cM Zp (Instr.makeSlice 174 (i64 p0) (i64 p0)) (.one (.l .slice)) fun(r18:av)=>aZ S5<|cM Zp (Instr.makeSlice 43 (i64 p0) (i64 p0)) (.one (.l .slice)) fun(r19:av)=>nw 176 [sV r6,sV r19,sV r14,sV r18] fun b20=>J1 (⟨b20,0,none⟩,()))) (cM Zp (Instr.makeSlice 174 (i64 p0) (i64 p0)) (.one (.l .slice)) fun(r21:av)=>aZ S5<|both (cM Zp (Instr.makeSlice 43 (i64 p0) (i64 p0)) (.one (.l .slice)) fun(r22:av)=>cM Zp (Instr.makeSlice 43 (i64 p0) (i64 p0)) (.one (.l .slice)) fun(r23:av)=>nw 176 [sV r6,sV r22,sV r23,sV r21] fun b24=>J1 (⟨b24,0,none⟩,())) (cM Zp (Instr.makeSlice 43 (i64 p0) (i64 p0)) (.one (.l .slice)) fun(r25:av)=>aZ S5<|cM Zp (Instr.makeSlice 43 (i64 p0) (i64 p0)) (.one (.l .slice)) fun(r26:av)=>nw 176 [sV r6,sV r26,sV r25,sV r21] fun b27=>J1 (⟨b27,0,none⟩,()))))) (both (cM Zp (Instr.makeSlice 43 (i64 p0) (i64 p0)) (.one (.l .slice)) fun(r28:av)=>both (cM Zp (Instr.makeSlice 43 (i64 (IntKind.wrap .i64 (p0*64))) (i64 (IntKind.wrap .i64 (p0*64)))) (.one (.l .slice)) fun(r29:av)=>both (cM Zp (Instr.makeSlice 43 (i64 p0) (i64 p0)) (.one (.l .slice)) fun(r30:av)=>cM Zp (Instr.makeSlice 174 (i64 p0) (i64 p0)) (.one (.l .slice)) fun(r31:av)=>nw 176 [sV r29,sV r28,sV r30,sV r31] fun b32=>J1 (⟨b32,0,none⟩,())) (cM Zp (Instr.makeSlice 174 (i64 p0) (i64 p0)) (.one (.l .slice)) fun(r33:av)=>cM Zp (Instr.makeSlice 43 (i64 p0) (i64 p0)) (.one (.l .slice)) fun(r34:av)=>nw 176 [sV r29,sV r28,sV r34,sV r33] fun b35=>J1 (⟨b35,0,none⟩,()))) (both (cM Zp (Instr.makeSlice 43 (i64 p0) (i64 p0)) (.one (.l .slice)) fun(r36:av)=>both (cM Zp (Instr.makeSlice 43 (i64 (IntKind.wrap .i64 (p0*64))) (i64 (IntKind.wrap .i64 (p0*64)))) (.one (.l .slice)) fun(r37:av)=>cM Zp (Instr.makeSlice 174 (i64 p0) (i64 p0)) (.one (.l .slice)) fun(r38:av)=>nw 176 [sV r37,sV r28,sV r36,sV r38] fun b39=>J1 (⟨b39,0,none⟩,())) (cM Zp (Instr.makeSlice 174 (i64 p0) (i64 p0)) (.one (.l .slice)) fun(r40:av)=>cM Zp (Instr.makeSlice 43 (i64 (IntKind.wrap .i64 (p0*64))) (i64 (IntKind.wrap .i64 (p0*64)))) (.one (.l .slice)) fun(r41:av)=>nw 176 [sV r41,sV r28,sV r36,sV r40] fun b42=>J1 (⟨b42,0,none⟩,()))) (cM Zp (Instr.makeSlice 174 (i64 p0) (i64 p0)) (.one (.l .slice)) fun(r43:av)=>both (cM Zp (Instr.makeSlice 43 (i64 (IntKind.wrap .i64 (p0*64))) (i64 (IntKind.wrap .i64 (p0*64)))) (.one (.l .slice)) fun(r44:av)=>cM Zp (Instr.makeSlice 43 (i64 p0) (i64 p0)) (.one (.l .slice)) fun(r45:av)=>nw 176 [sV r44,sV r28,sV r45,sV r43] fun b46=>J1 (⟨b46,0,none⟩,())) (cM Zp (Instr.makeSlice 43 (i64 p0) (i64 p0)) (.one (.l .slice)) fun(r47:av)=>cM Zp (Instr.makeSlice 43 (i64 (IntKind.wrap .i64 (p0*64))) (i64 (IntKind.wrap .i64 (p0*64)))) (.one (.l .slice)) fun(r48:av)=>nw 176 [sV r48,sV r28,sV r47,sV r43] fun b49=>J1 (⟨b49,0,none⟩,()))))) (both (cM Zp (Instr.makeSlice 43 (i64 p0) (i64 p0)) (.one (.l .slice)) fun(r50:av)=>aZ S5<|both (cM Zp (Instr.makeSlice 43 (i64 (IntKind.wrap .i64 (p0*64))) (i64 (IntKind.wrap .i64 (p0*64)))) (.one (.l .slice)) fun(r51:av)=>aZ S5<|both (cM Zp (Instr.makeSlice 43 (i64 p0) (i64 p0)) (.one (.l .slice)) fun(r52:av)=>cM Zp (Instr.makeSlice 174 (i64 p0) (i64 p0)) (.one (.l .slice)) fun(r53:av)=>nw 176 [sV r51,sV r52,sV r50,sV r53] fun b54=>J1 (⟨b54,0,none⟩,())) (cM Zp (Instr.makeSlice 174 (i64 p0) (i64 p0)) (.one (.l .slice)) fun(r55:av)=>aZ S5<|cM Zp (Instr.makeSlice 43 (i64 p0) (i64 p0)) (.one (.l .slice)) fun(r56:av)=>nw 176 [sV r51,sV r56,sV r50,sV r55] fun b57=>J1 (⟨b57,0,none⟩,()))) (both (cM Zp (Instr.makeSlice 43 (i64 p0) (i64 p0)) (.one (.l .slice)) fun(r58:av)=>both (cM Zp (Instr.makeSlice 43 (i64 (IntKind.wrap .i64 (p0*64))) (i64 (IntKind.wrap .i64 (p0*64)))) (.one (.l .slice)) fun(r59:av)=>cM Zp (Instr.makeSlice 174 (i64 p0) (i64 p0)) (.one (.l .slice)) fun(r60:av)=>nw 176 [sV r59,sV r58,sV r50,sV r60] fun b61=>J1 (⟨b61,0,none⟩,())) (cM Zp (Instr.makeSlice 174 (i64 p0) (i64 p0)) (.one (.l .slice)) fun(r62:av)=>cM Zp (Instr.makeSlice 43 (i64 (IntKind.wrap .i64 (p0*64))) (i64 (IntKind.wrap .i64 (p0*64)))) (.one (.l .slice)) fun(r63:av)=>nw 176 [sV r63,sV r58,sV r50,sV r62] fun b64=>J1 (⟨b64,0,none⟩,()))) (cM Zp (Instr.makeSlice 174 (i64 p0) (i64 p0)) (.one (.l .slice)) fun(r65:av)=>aZ S5<|both (cM Zp (Instr.makeSlice 43 (i64 (IntKind.wrap .i64 (p0*64))) (i64 (IntKind.wrap .i64 (p0*64)))) (.one (.l .slice)) fun(r66:av)=>aZ S5<|cM Zp (Instr.makeSlice 43 (i64 p0) (i64 p0)) (.one (.l .slice)) fun(r67:av)=>nw 176 [sV r66,sV r67,sV r50,sV r65] fun b68=>J1 (⟨b68,0,none⟩,())) (cM Zp (Instr.makeSlice 43 (i64 p0) (i64 p0)) (.one (.l .slice)) fun(r69:av)=>cM Zp (Instr.makeSlice 43 (i64 (IntKind.wrap .i64 (p0*64))) (i64 (IntKind.wrap .i64 (p0*64)))) (.one (.l .slice)) fun(r70:av)=>nw 176 [sV r70,sV r69,sV r50,sV r65] fun b71=>J1 (⟨b71,0,none⟩,()))))) (cM Zp (Instr.makeSlice 174 (i64 p0) (i64 p0)) (.one (.l .slice)) fun(r72:av)=>aZ S5<|both (cM Zp (Instr.makeSlice 43 (i64 (IntKind.wrap .i64 (p0*64))) (i64 (IntKind.wrap .i64 (p0*64)))) (.one (.l .slice)) fun(r73:av)=>aZ S5<|both (cM Zp (Instr.makeSlice 43 (i64 p0) (i64 p0)) (.one (.l .slice)) fun(r74:av)=>cM Zp (Instr.makeSlice 43 (i64 p0) (i64 p0)) (.one (.l .slice)) fun(r75:av)=>nw 176 [sV r73,sV r74,sV r75,sV r72] fun b76=>J1 (⟨b76,0,none⟩,())) (cM Zp (Instr.makeSlice 43 (i64 p0) (i64 p0)) (.one (.l .slice)) fun(r77:av)=>aZ S5<|cM Zp (Instr.makeSlice 43 (i64 p0) (i64 p0)) (.one (.l .slice)) fun(r78:av)=>nw 176 [sV r73,sV r78,sV r77,sV r72] fun b79=>J1 (⟨b79,0,none⟩,()))) (both (cM Zp (Instr.makeSlice 43 (i64 p0) (i64 p0)) (.one (.l .slice)) fun(r80:av)=>both (cM Zp (Instr.makeSlice 43 (i64 (IntKind.wrap .i64 (p0*64))) (i64 (IntKind.wrap .i64 (p0*64)))) (.one (.l .slice)) fun(r81:av)=>cM Zp (Instr.makeSlice 43 (i64 p0) (i64 p0)) (.one (.l .slice)) fun(r82:av)=>nw 176 [sV r81,sV r80,sV r82,sV r72] fun b83=>J1 (⟨b83,0,none⟩,())) (cM Zp (Instr.makeSlice 43 (i64 p0) (i64 p0)) (.one (.l .slice)) fun(r84:av)=>cM Zp (Instr.makeSlice 43 (i64 (IntKind.wrap .i64 (p0*64))) (i64 (IntKind.wrap .i64 (p0*64)))) (.one (.l .slice)) fun(r85:av)=>nw 176 [sV r85,sV r80,sV r84,sV r72] fun b86=>J1 (⟨b86,0,none⟩,()))) (cM Zp (Instr.makeSlice 43 (i64 p0) (i64 p0)) (.one (.l .slice)) fun(r87:av)=>aZ S5<|both (cM Zp (Instr.makeSlice 43 (i64 (IntKind.wrap .i64 (p0*64))) (i64 (IntKind.wrap .i64 (p0*64)))) (.one (.l .slice)) fun(r88:av)=>aZ S5<|cM Zp (Instr.makeSlice 43 (i64 p0) (i64 p0)) (.one (.l .slice)) fun(r89:av)=>nw 176 [sV r88,sV r89,sV r87,sV r72] fun b90=>J1 (⟨b90,0,none⟩,())) (cM Zp (Instr.makeSlice 43 (i64 p0) (i64 p0)) (.one (.l .slice)) fun(r91:av)=>cM Zp (Instr.makeSlice 43 (i64 (IntKind.wrap .i64 (p0*64))) (i64 (IntKind.wrap .i64 (p0*64)))) (.one (.l .slice)) fun(r92:av)=>nw 176 [sV r92,sV r91,sV r87,sV r72] fun b93=>J1 (⟨b93,0,none⟩,())))))))
theorem F.ah.mB.calls(p0:Int):Cf 100 [i64 p0] (F.ah.mB p0):=Tryz.cd F.ah.mB.T Tryz.func100
def F.ah.aV.Find.T:az:=⟨(fun|11=>[(5,kI)]|_=>[]),(fun|11=>some []|_=>none),fun _=> .quiet⟩
def F.ah.aV.Find(p0:OA)(p1:Int):Tree:=nw 186 (zc Zp 186) fun b1=>br (decide ((p1:Int)<0)) (st (aB b1) [i64 0,i64 0,.bool false]<|dG [kI,kI,.bool] (aB b1) fun x2=>ret (.agg #[i64 x2.1,i64 x2.2.1,.bool x2.2.2.1])) (nn p0 fun a2=>dS (fa a2 0) fun x3=>br (decide ((p1:Int)≥(x3.n:Nat))) (st (aB b1) [i64 0,i64 0,.bool false]<|dG [kI,kI,.bool] (aB b1) fun x4=>ret (.agg #[i64 x4.1,i64 x4.2.1,.bool x4.2.2.1])) (dE ((64:Int)≠0)<|nn p0 fun a4=>dS (fa a4 1) fun x5=>ix x5.a x5.n (IntKind.wrap .i64 (Int.tdiv p1 64)) 1 fun a6=>dI a6 fun x7=>jn (fun(j9:LTs [])=>lp [kI] (fun X10 u11=>br (decide ((u11.1:Int)>0)) (nn p0 fun a12=>dS (fa a12 1) fun x13=>ix x13.a x13.n u11.1 1 fun a14=>dI a14 fun x15=>br ((x15:Int)==7) (X10 (IntKind.wrap .i64 (u11.1-1),())) (nn p0 fun a16=>dS (fa a16 1) fun x17=>ix x17.a x17.n u11.1 1 fun a18=>dI a18 fun x19=>br ((x19:Int) != 6) (st (aB b1) [i64 0,i64 0,.bool false]<|dG [kI,kI,.bool] (aB b1) fun x20=>ret (.agg #[i64 x20.1,i64 x20.2.1,.bool x20.2.2.1])) (nn p0 fun a20=>dS (fa a20 2) fun x21=>ix x21.a x21.n u11.1 1 fun a22=>dI a22 fun x23=>st (aB b1) [i64 (IntKind.wrap .i64 (u11.1*64)),i64 (IntKind.wrap .i64 (x23*64)),.bool true]<|dG [kI,kI,.bool] (aB b1) fun x24=>ret (.agg #[i64 x24.1,i64 x24.2.1,.bool x24.2.2.1])))) (nn p0 fun a12=>dS (fa a12 1) fun x13=>ix x13.a x13.n u11.1 1 fun a14=>dI a14 fun x15=>br ((x15:Int) != 6) (st (aB b1) [i64 0,i64 0,.bool false]<|dG [kI,kI,.bool] (aB b1) fun x16=>ret (.agg #[i64 x16.1,i64 x16.2.1,.bool x16.2.2.1])) (nn p0 fun a16=>dS (fa a16 2) fun x17=>ix x17.a x17.n u11.1 1 fun a18=>dI a18 fun x19=>st (aB b1) [i64 (IntKind.wrap .i64 (u11.1*64)),i64 (IntKind.wrap .i64 (x19*64)),.bool true]<|dG [kI,kI,.bool] (aB b1) fun x20=>ret (.agg #[i64 x20.1,i64 x20.2.1,.bool x20.2.2.1])))) (IntKind.wrap .i64 (Int.tdiv p1 64),())) fun J8=>br (decide ((x7:Int)≥1)) (br (decide ((x7:Int)≤5)) (cS 82 [] fun r21=>ix r21.a r21.n (IntKind.wrap .i64 (x7-1)) 1 fun a22=>dI a22 fun x23=>dE ((64:Int)≠0)<|dE ((x23:Int)≠0)<|nn p0 fun a24=>dS (fa a24 3) fun x25=>ix x25.a x25.n (IntKind.wrap .i64 (Int.tdiv p1 64)) 1 fun a26=>dS a26 fun x27=>ix x27.a x27.n (IntKind.wrap .i64 (Int.tdiv (Int.tmod p1 64) x23)) 1 fun a28=>dB a28 fun x29=>br (!x29) (st (aB b1) [i64 0,i64 0,.bool false]<|dG [kI,kI,.bool] (aB b1) fun x30=>ret (.agg #[i64 x30.1,i64 x30.2.1,.bool x30.2.2.1])) (st (aB b1) [i64 (IntKind.wrap .i64 ((IntKind.wrap .i64 ((IntKind.wrap .i64 (Int.tdiv p1 64))*64))+(IntKind.wrap .i64 ((IntKind.wrap .i64 (Int.tdiv (Int.tmod p1 64) x23))*x23)))),i64 x23,.bool true]<|dG [kI,kI,.bool] (aB b1) fun x30=>ret (.agg #[i64 x30.1,i64 x30.2.1,.bool x30.2.2.1]))) (J8 (()))) (J8 (()))))
theorem F.ah.aV.Find.calls(p0:OA)(p1:Int):Cf 135 [pV p0,i64 p1] (F.ah.aV.Find p0 p1):=Tryz.cd F.ah.aV.Find.T Tryz.func135
def F.ah.xb(p0:LTs [kI,kI,kI,.bool]):Tree:=nw 72 [i64 p0.1,i64 p0.2.1,i64 p0.2.2.1,.bool p0.2.2.2.1] fun b1=>dI (fa (aB b1) 2) fun x2=>br (decide ((x2:Int)<0)) (ret (.bool false)) (dI (fa (aB b1) 2) fun x3=>br (decide ((x3:Int)>1023)) (ret (.bool false)) (dI (fa (aB b1) 0) fun x4=>br ((x4:Int)==1) (dI (fa (aB b1) 1) fun x5=>br (decide ((x5:Int)≥1)) (dI (fa (aB b1) 1) fun x6=>ret (.bool (decide ((x6:Int)≤256)))) (ret (.bool false))) (br ((x4:Int)==2) (br ((x4:Int)==2) (dI (fa (aB b1) 1) fun x5=>ret (.bool ((x5:Int)==0))) (br ((x4:Int)==4) (dI (fa (aB b1) 1) fun x5=>br (decide ((x5:Int)≥1)) (dI (fa (aB b1) 1) fun x6=>br (decide ((x6:Int)≤3)) (dI (fa (aB b1) 2) fun x7=>br ((x7:Int)==5) (dB (fa (aB b1) 3) fun x8=>ret (.bool (!x8))) (ret (.bool false))) (ret (.bool false))) (ret (.bool false))) (ret (.bool false)))) (br ((x4:Int)==3) (dI (fa (aB b1) 1) fun x5=>ret (.bool ((x5:Int)==0))) (br ((x4:Int)==4) (dI (fa (aB b1) 1) fun x5=>br (decide ((x5:Int)≥1)) (dI (fa (aB b1) 1) fun x6=>br (decide ((x6:Int)≤3)) (dI (fa (aB b1) 2) fun x7=>br ((x7:Int)==5) (dB (fa (aB b1) 3) fun x8=>ret (.bool (!x8))) (ret (.bool false))) (ret (.bool false))) (ret (.bool false))) (ret (.bool false)))))))
theorem F.ah.xb.calls(p0:LTs [kI,kI,kI,.bool]):Cf 144 [.agg #[i64 p0.1,i64 p0.2.1,i64 p0.2.2.1,.bool p0.2.2.2.1]] (F.ah.xb p0):=Tryz.cd az.z Tryz.func144
def F.ah.og.T:az:=⟨(fun|4=>[(3,kI)]|_=>[]),fun _=>none,(fun|6=> .quiet|_=> .quiet)⟩
def F.ah.og(p0:LTs [kI,.slice]):Tree:=nw 109 [i64 p0.1,sV p0.2.1] fun b1=>dI (fa (aB b1) 0) fun x2=>br (decide ((x2:Int)<0)) (ret (.bool false)) (dI (fa (aB b1) 0) fun x3=>br (decide ((x3:Int)>1023)) (ret (.bool false)) (lp [kI] (fun X4 u5=>dS (fa (aB b1) 1) fun x6=>br (decide ((u5.1:Int)<(x6.n:Nat))) (cD<|dS (fa (aB b1) 1) fun x7=>ix x7.a x7.n u5.1 1 fun a8=>dI a8 fun x9=>br (decide ((x9:Int)<0)) (ret (.bool false)) (dS (fa (aB b1) 1) fun x10=>ix x10.a x10.n u5.1 1 fun a11=>dI a11 fun x12=>dI (fa (aB b1) 0) fun x13=>br (decide ((x12:Int)≥x13)) (ret (.bool false)) (br (decide ((u5.1:Int)>0)) (dS (fa (aB b1) 1) fun x14=>ix x14.a x14.n u5.1 1 fun a15=>dI a15 fun x16=>dS (fa (aB b1) 1) fun x17=>ix x17.a x17.n (IntKind.wrap .i64 (u5.1-1)) 1 fun a18=>dI a18 fun x19=>br (decide ((x16:Int)≤x19)) (ret (.bool false)) (X4 (IntKind.wrap .i64 (u5.1+1),()))) (X4 (IntKind.wrap .i64 (u5.1+1),()))))) (ret (.bool true))) (0,())))
theorem F.ah.og.calls(p0:LTs [kI,.slice]):Cf 180 [.agg #[i64 p0.1,sV p0.2.1]] (F.ah.og p0):=Tryz.cd F.ah.og.T Tryz.func180
def F.ah.w7(p0:Int):Tree:=nw 172 (zc Zp 172) fun b1=>br (decide ((p0:Int)<0)) (st (aB b1) [i64 0,i64 0,i64 0,.bool false,.bool false]<|dG [kI,kI,kI,.bool,.bool] (aB b1) fun x2=>ret (.agg #[i64 x2.1,i64 x2.2.1,i64 x2.2.2.1,.bool x2.2.2.2.1,.bool x2.2.2.2.2.1])) (br (decide ((p0:Int)≥67108864)) (st (aB b1) [i64 0,i64 0,i64 0,.bool false,.bool false]<|dG [kI,kI,kI,.bool,.bool] (aB b1) fun x2=>ret (.agg #[i64 x2.1,i64 x2.2.1,i64 x2.2.2.1,.bool x2.2.2.2.1,.bool x2.2.2.2.2.1])) (dE ((8:Int)≠0)<|dE ((8:Int)≠0)<|dE ((2:Int)≠0)<|dE ((16:Int)≠0)<|dE ((4096:Int)≠0)<|dE ((65536:Int)≠0)<|nw 72 (zc Zp 72) fun b2=>st (aB b2) [i64 (Int.tmod p0 8),i64 (Int.tmod (IntKind.wrap .i64 (Int.tdiv p0 16)) 4096),i64 (IntKind.wrap .i64 (Int.tdiv p0 65536)),.bool ((Int.tmod (IntKind.wrap .i64 (Int.tdiv p0 8)) 2:Int)==1)]<|dG [kI,kI,kI,.bool] (aB b2) fun x3=>cB 144 [.agg #[i64 x3.1,i64 x3.2.1,i64 x3.2.2.1,.bool x3.2.2.2.1]] fun r4=>br (!r4) (st (aB b1) [i64 0,i64 0,i64 0,.bool false,.bool false]<|dG [kI,kI,kI,.bool,.bool] (aB b1) fun x5=>ret (.agg #[i64 x5.1,i64 x5.2.1,i64 x5.2.2.1,.bool x5.2.2.2.1,.bool x5.2.2.2.2.1])) (dG [kI,kI,kI,.bool] (aB b2) fun x5=>st (aB b1) [i64 x5.1,i64 x5.2.1,i64 x5.2.2.1,.bool x5.2.2.2.1,.bool true]<|dG [kI,kI,kI,.bool,.bool] (aB b1) fun x6=>ret (.agg #[i64 x6.1,i64 x6.2.1,i64 x6.2.2.1,.bool x6.2.2.2.1,.bool x6.2.2.2.2.1]))))
theorem F.ah.w7.calls(p0:Int):Cf 183 [i64 p0] (F.ah.w7 p0):=Tryz.cd az.z Tryz.func183
def F.ah.wT(p0:LTs [kI,kI,kI,.bool]):Tree:=nw 72 [i64 p0.1,i64 p0.2.1,i64 p0.2.2.1,.bool p0.2.2.2.1] fun b1=>dI (fa (aB b1) 0) fun x2=>dI (fa (aB b1) 1) fun x3=>dI (fa (aB b1) 2) fun x4=>dB (fa (aB b1) 3) fun x5=>br x5 (ret (i64 (IntKind.wrap .i64 ((IntKind.wrap .i64 ((IntKind.wrap .i64 (x2+(IntKind.wrap .i64 (16*x3))))+(IntKind.wrap .i64 (65536*x4))))+8)))) (ret (i64 (IntKind.wrap .i64 ((IntKind.wrap .i64 (x2+(IntKind.wrap .i64 (16*x3))))+(IntKind.wrap .i64 (65536*x4))))))
theorem F.ah.wT.calls(p0:LTs [kI,kI,kI,.bool]):Cf 184 [.agg #[i64 p0.1,i64 p0.2.1,i64 p0.2.2.1,.bool p0.2.2.2.1]] (F.ah.wT p0):=Tryz.cd az.z Tryz.func184
def F.ah.aV.yi.T:az:=⟨(fun|8=>[(8,kI)]|_=>[]),fun _=>none,(fun|13=> .tail 13 |_=> .quiet)⟩
def F.ah.aV.yi(p0:OA)(p1:Int):Tree:=cG 135 [pV p0,i64 p1] [kI,kI,.bool] fun r1=>nw 186 (zc Zp 186) fun b2=>st (aB b2) [i64 r1.1,i64 r1.2.1,.bool r1.2.2.1]<|dB (fa (aB b2) 2) fun x3=>br (!x3) (ret (i64 2)) (dI (fa (aB b2) 0) fun x4=>br ((x4:Int) != p1) (ret (i64 2)) (dE ((64:Int)≠0)<|nn p0 fun a5=>dS (fa a5 1) fun x6=>ix x6.a x6.n (IntKind.wrap .i64 (Int.tdiv p1 64)) 1 fun a7=>dI a7 fun x8=>br ((x8:Int)==6) (nn p0 fun a9=>dS (fa a9 2) fun x10=>ix x10.a x10.n (IntKind.wrap .i64 (Int.tdiv p1 64)) 1 fun a11=>dI a11 fun x12=>lp [kI] (fun X13 u14=>br (decide ((u14.1:Int)<(IntKind.wrap .i64 ((IntKind.wrap .i64 (Int.tdiv p1 64))+x12)))) (nn p0 fun a15=>dS (fa a15 1) fun x16=>ix x16.a x16.n u14.1 1 fun a17=>st a17 [i64 0]<|X13 (IntKind.wrap .i64 (u14.1+1),())) (nn p0 fun a15=>dS (fa a15 2) fun x16=>ix x16.a x16.n (IntKind.wrap .i64 (Int.tdiv p1 64)) 1 fun a17=>st a17 [i64 0]<|ret (i64 0))) (IntKind.wrap .i64 (Int.tdiv p1 64),())) (cD<|nn p0 fun a9=>dS (fa a9 3) fun x10=>ix x10.a x10.n (IntKind.wrap .i64 (Int.tdiv p1 64)) 1 fun a11=>dS a11 fun x12=>dE ((64:Int)≠0)<|dI (fa (aB b2) 1) fun x13=>dE ((x13:Int)≠0)<|ix x12.a x12.n (IntKind.wrap .i64 (Int.tdiv (Int.tmod p1 64) x13)) 1 fun a14=>st a14 [.bool false]<|nn p0 fun a15=>dS (fa a15 3) fun x16=>ix x16.a x16.n (IntKind.wrap .i64 (Int.tdiv p1 64)) 1 fun a17=>dS a17 fun x18=>cI 241 [sV x18] fun r19=>br ((r19:Int)==0) (nn p0 fun a20=>dS (fa a20 1) fun x21=>ix x21.a x21.n (IntKind.wrap .i64 (Int.tdiv p1 64)) 1 fun a22=>st a22 [i64 0]<|nn p0 fun a23=>dS (fa a23 3) fun x24=>ix x24.a x24.n (IntKind.wrap .i64 (Int.tdiv p1 64)) 1 fun a25=>st a25 [.slice none 0 0]<|ret (i64 0)) (ret (i64 0)))))
theorem F.ah.aV.yi.calls(p0:OA)(p1:Int):Cf 193 [pV p0,i64 p1] (F.ah.aV.yi p0 p1):=Tryz.cd F.ah.aV.yi.T Tryz.func193
def F.ah.aV.Alloc.T:az:=⟨(fun|11=>[(9,kI)]|19=>[(10,kI)]|_=>[]),(fun|21=>some [(10,kI)]|_=>none),(fun|26=> .held (some 9) (gF [0,1,2,3,4,5,6,7,8] (.go 9 true .nil))|_=> .quiet)⟩
def F.ah.aV.Alloc(p0:OA)(p1:Int):Tree:=nw 100 (zc Zp 100) fun b1=>cI 34 [i64 p1] fun r2=>br ((r2:Int)==0) (st (aB b1) [i64 0,i64 1]<|dG [kI,kI] (aB b1) fun x3=>ret (.agg #[i64 x3.1,i64 x3.2.1])) (cI 81 [i64 p1] fun r3=>br (decide ((r3:Int)<0)) (dE ((64:Int)≠0)<|cS 275 [pV p0] fun r4=>cI 276 [sV r4,i64 0,i64 (IntKind.wrap .i64 (Int.tdiv r2 64))] fun r5=>br (decide ((r5:Int)<0)) (st (aB b1) [i64 0,i64 3]<|dG [kI,kI] (aB b1) fun x6=>ret (.agg #[i64 x6.1,i64 x6.2.1])) (lp [kI] (fun X6 u7=>br (decide ((u7.1:Int)<(IntKind.wrap .i64 (r5+(IntKind.wrap .i64 (Int.tdiv r2 64)))))) (nn p0 fun a8=>dS (fa a8 1) fun x9=>ix x9.a x9.n u7.1 1 fun a10=>st a10 [i64 7]<|X6 (IntKind.wrap .i64 (u7.1+1),())) (nn p0 fun a8=>dS (fa a8 1) fun x9=>ix x9.a x9.n r5 1 fun a10=>st a10 [i64 6]<|nn p0 fun a11=>dS (fa a11 2) fun x12=>ix x12.a x12.n r5 1 fun a13=>st a13 [i64 (IntKind.wrap .i64 (Int.tdiv r2 64))]<|cN 277 [pV p0,i64 (IntKind.wrap .i64 (r5*64)),i64 r2] [] fun r14=>st (aB b1) [i64 (IntKind.wrap .i64 (r5*64)),i64 0]<|dG [kI,kI] (aB b1) fun x15=>ret (.agg #[i64 x15.1,i64 x15.2.1]))) (r5,()))) (jn (fun(j5:LTs [kI])=>nn p0 fun a6=>dS (fa a6 1) fun x7=>br ((j5.1:Int)==(x7.n:Nat)) (cS 275 [pV p0] fun r8=>cI 276 [sV r8,i64 0,i64 1] fun r9=>br (decide ((r9:Int)<0)) (st (aB b1) [i64 0,i64 3]<|dG [kI,kI] (aB b1) fun x10=>ret (.agg #[i64 x10.1,i64 x10.2.1])) (nn p0 fun a10=>dS (fa a10 1) fun x11=>ix x11.a x11.n r9 1 fun a12=>st a12 [i64 (IntKind.wrap .i64 (r3+1))]<|cD<|Gl.held fun S13=>nn p0 fun a14=>eS S13 (fa a14 3) fun x15=>dE ((r2:Int)≠0)<|cM Zp (Instr.makeSlice 189 (i64 (IntKind.wrap .i64 (Int.tdiv 64 r2))) (i64 (IntKind.wrap .i64 (Int.tdiv 64 r2)))) (.one (.l .slice)) fun(r16:av)=>aZ S13<|ix x15.a x15.n r9 1 fun a17=>st a17 [sV r16]<|nn p0 fun a18=>dS (fa a18 3) fun x19=>ix x19.a x19.n r9 1 fun a20=>dS a20 fun x21=>cI 278 [sV x21,i64 0,.bool false] fun r22=>nn p0 fun a23=>dS (fa a23 3) fun x24=>ix x24.a x24.n r9 1 fun a25=>dS a25 fun x26=>ix x26.a x26.n r22 1 fun a27=>st a27 [.bool true]<|cN 277 [pV p0,i64 (IntKind.wrap .i64 ((IntKind.wrap .i64 (r9*64))+(IntKind.wrap .i64 (r22*r2)))),i64 r2] [] fun r28=>st (aB b1) [i64 (IntKind.wrap .i64 ((IntKind.wrap .i64 (r9*64))+(IntKind.wrap .i64 (r22*r2)))),i64 0]<|dG [kI,kI] (aB b1) fun x29=>ret (.agg #[i64 x29.1,i64 x29.2.1]))) (nn p0 fun a8=>dS (fa a8 3) fun x9=>ix x9.a x9.n j5.1 1 fun a10=>dS a10 fun x11=>cI 278 [sV x11,i64 0,.bool false] fun r12=>nn p0 fun a13=>dS (fa a13 3) fun x14=>ix x14.a x14.n j5.1 1 fun a15=>dS a15 fun x16=>ix x16.a x16.n r12 1 fun a17=>st a17 [.bool true]<|cN 277 [pV p0,i64 (IntKind.wrap .i64 ((IntKind.wrap .i64 (j5.1*64))+(IntKind.wrap .i64 (r12*r2)))),i64 r2] [] fun r18=>st (aB b1) [i64 (IntKind.wrap .i64 ((IntKind.wrap .i64 (j5.1*64))+(IntKind.wrap .i64 (r12*r2)))),i64 0]<|dG [kI,kI] (aB b1) fun x19=>ret (.agg #[i64 x19.1,i64 x19.2.1]))) fun J4=>lp [kI] (fun X20 u21=>nn p0 fun a22=>dS (fa a22 1) fun x23=>br (decide ((u21.1:Int)<(x23.n:Nat))) (nn p0 fun a24=>dS (fa a24 1) fun x25=>ix x25.a x25.n u21.1 1 fun a26=>dI a26 fun x27=>br ((x27:Int) != (IntKind.wrap .i64 (r3+1))) (X20 (IntKind.wrap .i64 (u21.1+1),())) (nn p0 fun a28=>dS (fa a28 3) fun x29=>ix x29.a x29.n u21.1 1 fun a30=>dS a30 fun x31=>cI 278 [sV x31,i64 0,.bool false] fun r32=>br (decide ((r32:Int)<0)) (X20 (IntKind.wrap .i64 (u21.1+1),())) (J4 (u21.1,())))) (J4 (u21.1,()))) (0,())))
theorem F.ah.aV.Alloc.calls(p0:OA)(p1:Int):Cf 238 [pV p0,i64 p1] (F.ah.aV.Alloc p0 p1):=Tryz.cd F.ah.aV.Alloc.T Tryz.func238
def F.ah.Bits.Count.T:az:=⟨(fun|3=>[(3,kI),(4,kI)]|_=>[]),fun _=>none,fun _=> .quiet⟩
def F.ah.Bits.Count(p0:av):Tree:=lp [kI,kI] (fun X1 u2=>br (decide ((u2.2.1:Int)<(p0.n:Nat))) (ix p0.a p0.n u2.2.1 1 fun a3=>dB a3 fun x4=>br x4 (X1 (IntKind.wrap .i64 (u2.1+1),IntKind.wrap .i64 (u2.2.1+1),())) (X1 (u2.1,IntKind.wrap .i64 (u2.2.1+1),()))) (ret (i64 u2.1))) (0,0,())
theorem F.ah.Bits.Count.calls(p0:av):Cf 241 [sV p0] (F.ah.Bits.Count p0):=Tryz.cd F.ah.Bits.Count.T Tryz.func241
def F.ah.aV.fN.T:az:=⟨(fun|3=>[(4,kI)]|_=>[]),fun _=>none,fun _=> .quiet⟩
def F.ah.aV.fN(p0:OA):Tree:=nn p0 fun a1=>dS (fa a1 1) fun x2=>cM Zp (Instr.makeSlice 189 (i64 (x2.n:Nat)) (i64 (x2.n:Nat))) (.one (.l .slice)) fun(r3:av)=>lp [kI] (fun X4 u5=>br (decide ((u5.1:Int)<(r3.n:Nat))) (nn p0 fun a6=>dS (fa a6 1) fun x7=>ix x7.a x7.n u5.1 1 fun a8=>dI a8 fun x9=>ix r3.a r3.n u5.1 1 fun a10=>st a10 [.bool ((x9:Int) != 0)]<|X4 (IntKind.wrap .i64 (u5.1+1),())) (ret (sV r3))) (0,())
theorem F.ah.aV.fN.calls(p0:OA):Cf 275 [pV p0] (F.ah.aV.fN p0):=Tryz.cd F.ah.aV.fN.T Tryz.func275
def F.ah.Bits.Ea.T:az:=⟨(fun|4=>[(7,kI)]|_=>[]),fun _=>none,fun _=> .quiet⟩
def F.ah.Bits.Ea(p0:av)(p1 p2:Int):Tree:=br (decide ((p2:Int)<1)) (ret (i64 (-1))) (br (decide ((p2:Int)>(p0.n:Nat))) (ret (i64 (-1))) (lp [kI] (fun X1 u2=>br (decide ((u2.1:Int)≤(IntKind.wrap .i64 ((p0.n:Nat)-p2)))) (cB 308 [sV p0,i64 u2.1,i64 p2] fun r3=>br r3 (ret (i64 u2.1)) (X1 (IntKind.wrap .i64 (u2.1+1),()))) (ret (i64 (-1)))) ((if(0:Int)>p1 then(0:Int)else p1),())))
theorem F.ah.Bits.Ea.calls(p0:av)(p1 p2:Int):Cf 276 [sV p0,i64 p1,i64 p2] (F.ah.Bits.Ea p0 p1 p2):=Tryz.cd F.ah.Bits.Ea.T Tryz.func276
def F.ah.aV.fill.T:az:=⟨(fun|1=>[(6,kI)]|_=>[]),fun _=>none,fun _=> .quiet⟩
def F.ah.aV.fill(p0:OA)(p1 p2:Int):Tree:=lp [kI] (fun X1 u2=>br (decide ((u2.1:Int)<(IntKind.wrap .i64 (p1+p2)))) (nn p0 fun a3=>dS (fa a3 0) fun x4=>ix x4.a x4.n u2.1 1 fun a5=>st a5 [i64 0]<|X1 (IntKind.wrap .i64 (u2.1+1),())) (ret (.tuple #[]))) (p1,())
theorem F.ah.aV.fill.calls(p0:OA)(p1 p2:Int):Cf 277 [pV p0,i64 p1,i64 p2] (F.ah.aV.fill p0 p1 p2):=Tryz.cd F.ah.aV.fill.T Tryz.func277
def F.ah.Bits.Next.T:az:=⟨(fun|2=>[(7,kI)]|_=>[]),fun _=>none,fun _=> .quiet⟩
def F.ah.Bits.Next(p0:av)(p1:Int)(p2:Bool):Tree:=lp [kI] (fun X1 u2=>br (decide ((u2.1:Int)<(p0.n:Nat))) (ix p0.a p0.n u2.1 1 fun a3=>dB a3 fun x4=>br (x4==p2) (ret (i64 u2.1)) (X1 (IntKind.wrap .i64 (u2.1+1),()))) (ret (i64 (-1)))) ((if(0:Int)>p1 then(0:Int)else p1),())
theorem F.ah.Bits.Next.calls(p0:av)(p1:Int)(p2:Bool):Cf 278 [sV p0,i64 p1,.bool p2] (F.ah.Bits.Next p0 p1 p2):=Tryz.cd F.ah.Bits.Next.T Tryz.func278
def F.ah.Bits.clear.T:az:=⟨(fun|2=>[(7,kI)]|_=>[]),fun _=>none,fun _=> .quiet⟩
def F.ah.Bits.clear(p0:av)(p1 p2:Int):Tree:=lp [kI] (fun X1 u2=>br (decide ((u2.1:Int)<(IntKind.wrap .i64 (p1+p2)))) (ix p0.a p0.n u2.1 1 fun a3=>dB a3 fun x4=>br x4 (ret (.bool false)) (X1 (IntKind.wrap .i64 (u2.1+1),()))) (ret (.bool true))) (p1,())
theorem F.ah.Bits.clear.calls(p0:av)(p1 p2:Int):Cf 308 [sV p0,i64 p1,i64 p2] (F.ah.Bits.clear p0 p1 p2):=Tryz.cd F.ah.Bits.clear.T Tryz.func308
variable{ρ0 ρ:FR}{L L':List aD}{Post:Value→List aD→Prop}{T:Tree}
theorem qH(e:Int):Gl.Spec ρ Zp 13 [i64 e] [] R1 fun r M=>r=e∧M=[]:=by exact So (F.m7.Mn.calls e) fun R=>rT
theorem Ob.eU{S:aJ}{cs:List aX}(hw:aY S cs){h:Hd}(h0:(Ob.make S cs h).2.1=0){a:Int}{h':Hd}(hh:Ob.head S a=some h'):
  Ob.head (Ob.make S cs h).2.2 a=some h'∧a≠(Ob.make S cs h).1∧∀i,0≤i→i<h'.n→Ob.get (Ob.make S cs h).2.2 a i=Ob.get S a i:=by
 obtain⟨b,n,e1,e2,e3,e4,e5,e6,e7,e8,e9⟩:=Ob.l6 hw h0;obtain⟨m,w,rfl,g1,g2,g3,g4,g5⟩:=Ob.bU hw hh;have hb:=Sp.cb g3;have hout:∀j:Nat,m≤j→j<m+w→¬(b≤j∧j<b+n):=fun j j1 j2 hc=>by have t1:=nm hw.wf g1 j1 j2;grind
 have hwd:∀j:Nat,m≤j→j<m+w→(Ob.make S cs h).2.2.ws.getD j 0=S.ws.getD j 0:=fun j j1 j2=>by have:=hout j j1 j2;have hb1:=Sp.cb (Ob.nR e2).1;rw[e6,ft ae,nO e5,if_neg this]
 have hm:=hout m ae ae;have hhd:Ob.head (Ob.make S cs h).2.2 m=some h':=by unfold Ob.head;rw[e7 m,if_neg hm,g1];dsimp only;rw[if_pos rfl,hwd m ae ae,g2,Sp.jc g3]
 refine⟨hhd,?_,fun i i0 i1=>?_⟩;·have hb1:=Sp.cb (Ob.nR e2).1;omega
 ·rw[Ob.eb hhd i0 i1,Ob.eb hh i0 i1,hwd _ ae ae]
theorem Ob.qO{S:aJ}{cs:List aX}(hw:aY S cs){a i x:Int}{h:Hd}(hh:Ob.head S a=some h)(i0:0≤i)(i1:i<h.n):
  (Ob.put S a i x).1=0∧∀(a':Int) (h':Hd),Ob.head S a'=some h'→Ob.head (Ob.put S a i x).2 a'=some h'∧∀j,0≤j→j<h'.n→Ob.get (Ob.put S a i x).2 a' j=if a'=a∧j=i then(x,0)else Ob.get S a' j:=by
 obtain⟨m,w,rfl,g1,g2,g3,g4,g5⟩:=Ob.bU hw hh;have e:Ob.fieldAt S m i=(m+1+i,0):=by unfold Ob.fieldAt;grind
 have ep:Ob.put S m i x=(0,⟨S.ws.set (m+1+i).toNat x,S.pg⟩):=by unfold Ob.put;rw[e,if_neg bu]
 rw[ep];refine⟨rfl,fun a' h' hh'=>?_⟩;obtain⟨m',w',rfl,g1',g2',g3',g4',g5'⟩:=Ob.bU hw hh';have hin:=nm hw.wf g1 (m:=(m+1+i).toNat) ae ae;have hne:(m+1+i).toNat≠m':=fun e2=>by grind
 have hhd:Ob.head ⟨S.ws.set ((m:Int)+1+i).toNat x,S.pg⟩ m'=some h':=by unfold Ob.head;rw[kp bu,g1'];dsimp only;rw[if_pos rfl,ft hne,g2',Sp.jc g3']
 refine⟨hhd,fun j j0 j1=>?_⟩;rw[Ob.eb hhd j0 j1,Ob.eb hh' j0 j1];split;·grind
 ·rw[ft ?_];intro e2;have hin':=nm hw.wf g1' (m:=(m'+1+j).toNat) ae ae;grind
theorem mD(s1 s2:av)(xs ys:List Int)(h1:fx ρ s1 1 (xs.map i64))(h2:fx ρ s2 1 (ys.map i64))(hl:xs.length<2^62):
  Gl.Spec ρ Zp 31 [.slice s1.a s1.n s1.c,.slice s2.a s2.n s2.c] [] RB fun r M=>r=decide (xs=ys)∧M=[]:=by
 refine So (F.ah.od.calls _ _) fun R=>?_;have n1:s1.n=xs.length:=by have:=h1.1;simpa using this.symm
 have n2:s2.n=ys.length:=by have:=h2.1;simpa using this.symm
 refine ag (fun h=>?_) (fun h=>?_)
 ·have hne:xs≠ys:=by rintro rfl;rw[n1,n2]at h;simp at h
  refine ax ?_ ⟨rfl,rfl⟩ ar bE;rw[decide_eq_false hne];rfl
 ·have hle:xs.length=ys.length:=by simp at h;omega
  refine aM (fun n u M=>(fun i:Int=>M=R∧0≤i∧i≤xs.length∧n=xs.length-i.toNat∧xs.take i.toNat=ys.take i.toNat) u.1) xs.length ?_ ?_;·exact⟨rfl,bu,bq,bu,bu⟩
  ·rintro n ⟨(i:Int),⟨⟩⟩ M ⟨rfl,i0,i1,rfl,ht⟩ X hX;refine ag (fun h3=>?_) (fun h3=>?_)
   ·replace h3:i<(s1.n:Int):=oT h3;have hi:i.toNat<xs.length:=by omega
    refine aA (bz h1 i0 h3 fun a0 ha=>?_);refine cu ha h1 fX (getD_map hi)<|bz h2 i0 ae fun a1 ha1=>cu (j:=i.toNat) ha1 h2 fX (getD_map ae)<|ag (fun h4=>?_) (fun h4=>?_)
    ·have hne:xs≠ys:=by rintro rfl;simp at h4
     refine ax ?_ ⟨rfl,rfl⟩ ar bE;rw[decide_eq_false hne];rfl
    ·have h4:xs.getD i.toNat 0=ys.getD i.toNat 0:=by simpa using h4
     rw[bG];refine hX _ _ _ ae ⟨rfl,bq,bq,rfl,?_⟩;rw[show(i+1).toNat=i.toNat+1 by omega,aE 0 hi,aE 0 ae,ht,h4]
   ·replace h3:¬i<(s1.n:Int):=oF h3;have he:xs=ys:=by have:=ht;rwa [List.take_of_length_le ae,List.take_of_length_le ae]at this
    refine ax ?_ ⟨rfl,rfl⟩ ar bE;rw[decide_eq_true he];rfl
theorem rK{S:aJ}(hw:Wf S){n w:Nat}(h:Sp.find S n=some (n,w)):(n:Int)∈Sp.each S:=by
 obtain⟨hn,hcase⟩:=Sp.l5 hw h rfl;apply Sp.fP.mpr;rcases hcase with ⟨c,l,k,h1,h2,h3,h4,h5,h6,h7⟩|⟨k,h1,h2,h3⟩;·refine⟨n/64,cf h1,?_⟩;unfold Sp.gE;simp only[Sp.jh,List.mem_filterMap,List.mem_range];grind
 ·refine⟨n/64,cf h1,?_⟩;unfold Sp.gE;rw[mV h1];simp only[Sp.jh,List.mem_singleton];omega
theorem fP{S:aJ}(hw:Wf S){a:Int}:a∈Sp.each S↔∃n w:Nat,a=n∧Sp.find S n=some (n,w):=by
 constructor;·intro h;obtain⟨n,h1,_,w,h2,_⟩:=Sp.jD hw h;exact⟨n,w,h1,h2⟩
 ·rintro⟨n,w,rfl,h⟩;exact rK hw h
theorem np{S:aJ}(hw:Wf S):(Sp.each S).Nodup:=(Sp.lZ hw).imp fun h=>by omega
theorem wD{S:aJ}{cs:List aX}(hw:aY S cs){h:Hd}(h0:(Ob.make S cs h).2.1=0):(Sp.each (Ob.make S cs h).2.2).Perm ((Ob.make S cs h).1::Sp.each S):=by
 obtain⟨a,n,e1,e2,e3,e4,e5,e6,e7,e8,e9⟩:=Ob.l6 hw h0;have hb:=Sp.cb (Ob.nR e2).1;rw[List.perm_ext_iff_of_nodup (np e9.wf)];·intro x;rw[fP e9.wf,List.mem_cons,fP hw.wf,e1];grind
 ·rw[List.nodup_cons];refine⟨fun hx=>?_,np hw.wf⟩;obtain⟨m,w,e,hf⟩:=(fP hw.wf).mp hx;grind
theorem zS(S:aJ):(Ob.eR S).length=(Sp.each S).length:=by unfold Ob.eR;rw[List.length_map]
theorem tN{S:aJ}{cs:List aX}(hw:aY S cs)(a i x:Int):Sp.each (Ob.put S a i x).2=Sp.each S:=by obtain⟨ws',e,hl⟩:=xI S a i x;rw[e];rfl
theorem Ob.lJ{S:aJ}{cs:List aX}(hw:aY S cs){a:Int}{h:Hd}(hh:Ob.head S a=some h)(hk:h.k≠4)(hf:h.f=false):
  (Ob.final S a).1=0∧Ob.head (Ob.final S a).2 a=some {h with f:=true}∧(∀(a':Int) (h':Hd),a'≠a→Ob.head S a'=some h'→Ob.head (Ob.final S a).2 a'=some h')∧
  ∀(a':Int) (h':Hd) (j:Int),Ob.head S a'=some h'→0≤j→j<h'.n→Ob.get (Ob.final S a).2 a' j=Ob.get S a' j:=by
 obtain⟨m,w,rfl,g1,g2,g3,g4,g5⟩:=Ob.bU hw hh;have hb:=Sp.cb g3;have e:Ob.final S m=(0,⟨S.ws.set m (Sp.fV {h with f:=true}),S.pg⟩):=by unfold Ob.final;grind
 rw[e];have h1:Ob.head ⟨S.ws.set m (Sp.fV {h with f:=true}),S.pg⟩ m=some {h with f:=true}:=by unfold Ob.head;rw[kp bu,g1];dsimp only;rw[if_pos rfl,qT ae,Sp.jc (Sp.wZ g3 hk)]
 have h2:∀(a':Int) (h':Hd),a'≠m→Ob.head S a'=some h'→Ob.head ⟨S.ws.set m (Sp.fV {h with f:=true}),S.pg⟩ a'=some h':=fun a' h' hne hh'=>by obtain⟨m',w',rfl,g1',g2',g3',g4',g5'⟩:=Ob.bU hw hh';unfold Ob.head;rw[kp bu,g1'];dsimp only;rw[if_pos rfl,ft ae,g2',Sp.jc g3']
 refine⟨rfl,h1,h2,fun a' h' j hh' j0 j1=>?_⟩;obtain⟨m',w',rfl,g1',g2',g3',g4',g5'⟩:=Ob.bU hw hh';have key:∃h2:Hd,Ob.head ⟨S.ws.set m (Sp.fV {h with f:=true}),S.pg⟩ m'=some h2∧h2.n=h'.n:=by grind
 obtain⟨hd,k1,k2⟩:=key;rw[Ob.eb k1 j0 ae,Ob.eb hh' j0 j1];rw[ft ?_];intro e2;have hin:=nm hw.wf g1' (m:=(m'+1+j).toNat) ae ae;grind
theorem Jq{S:aJ}{cs:List aX}(hw:aY S cs){c:aX}(h1:cs.length<256)(h2:c.2.length≤2^20):aY S (cs++[c]):=
 ⟨hw.wf,hw.obj,by simp;omega,fun x hx=>by
  rcases List.mem_append.mp hx with hx|hx;·exact hw.refs x hx
  grind⟩
theorem _root_.Go.Gl.fx.len{s:av}{xs:List Int}(hr:fx ρ s 1 (xs.map i64)):s.n=xs.length:=by have:=hr.1;simpa using this.symm
theorem _root_.Go.Gl.Tr.fu{s:av}{xs:List Int}(t:Take L (aw s 1 (xs.map i64)) L')(h:s.n=xs.length→Tr ρ0 ρ L T Post):Tr ρ0 ρ L T Post:=
 Tr.fA t fun h1 _=>h (by simpa using h1.symm)
theorem cC{s:av}{xs:List Int}{i:Int}{f:Int→Tree}(hr:fx ρ s 1 (xs.map i64))(h0:0≤i)(h1:i<xs.length)(h:Tr ρ0 ρ L (f (xs.getD i.toNat 0)) Post):
  Tr ρ0 ρ L (ix s.a s.n i 1 fun a=>ld (.l kI) a f) Post:=by have hn:=hr.len;exact bz hr h0 ae fun a0 ha=>cu ha hr fX (getD_map ae) h
theorem bt{s:av}{xs:List Int}{i:Int}{f:Int→Tree}(t:Take L (aw s 1 (xs.map i64)) L')(h0:0≤i)(h1:i<xs.length)(h:Tr ρ0 ρ L (f (xs.getD i.toNat 0)) Post):
  Tr ρ0 ρ L (ix s.a s.n i 1 fun a=>ld (.l kI) a f) Post:=by exact Tr.fu t fun hn=>bD t h0 ae fun a0 ha=>cw ha t fX (getD_map ae) h
theorem dr{s:av}{xs:List Int}{i v:Int}{k:Tree}(t:Take L (aw s 1 (xs.map i64)) L')(h0:0≤i)(h1:i<xs.length)(h:Tr ρ0 ρ (aw s 1 ((xs.set i.toNat v).map i64)::L') k Post):
  Tr ρ0 ρ L (ix s.a s.n i 1 fun a=>st a [.int .i64 v] k) Post:=by refine Tr.fu t fun hn=>bD t h0 ae fun a0 ha=>iR (j:=i.toNat) ha t fX fC rfl ?_;rw[show cH (xs.map i64) i.toNat [.int .i64 v]=(xs.set i.toNat v).map i64 by simp[cH,List.map_set]];exact h
theorem dm{P:Program}{ts:Array TypeId}{ty tt:TypeId}{s:av}{xs:List Int}{v:Int}{k:RT (.one (.l .slice))→Tree}(hok:pY P ts 1 8=true)(t:Take L (aw s 1 (xs.map i64)) L')(hb:xs.length<2^40)
  (h:∀r:av,r.n=xs.length+1→Tr ρ0 ρ (aw r 1 ((xs++[v]).map i64)::L') (k r) Post):
  Tr ρ0 ρ L (nw tt [.int .i64 v] fun b=>cM P (Builtin.append_ ts ty #[.slice s.a s.n s.c,.slice (oA b) 1 1]) (.one (.l .slice)) k) Post:=by refine Tr.fu t fun hn=>aq fun b=>eu (x:=⟨oA b,1,1⟩) hok (.skip t) (Rd.cl .here rfl rfl) rfl eV eV fun r hr=>?_;rw[show xs.map i64++[i64 v]=(xs++[v]).map i64 by simp];exact Tr.drop (.skip .here) (h r (by rw[hr,hn]))
theorem bj{P:Program}{ts:Array TypeId}{ty:TypeId}{s x:av}{xs ys:List Int}{k:RT (.one (.l .slice))→Tree}(hok:pY P ts 1 8=true)(t:Take L (aw s 1 (xs.map i64)) L')(hy:Rd ρ L' x 1 (ys.map i64))(hb:xs.length+ys.length<2^40)
  (h:∀r:av,r.n=xs.length+ys.length→Tr ρ0 ρ (aw r 1 ((xs++ys).map i64)::L') (k r) Post):
  Tr ρ0 ρ L (cM P (Builtin.append_ ts ty #[.slice s.a s.n s.c,.slice x.a x.n x.c]) (.one (.l .slice)) k) Post:=by
 refine Tr.fu t fun hn=>?_;have hx:x.n=ys.length:=by have:=hy.1;simpa using this.symm
 refine eu hok t hy (by simp[nA]) (by omega) (by omega) fun r hr=>?_;rw[←List.map_append];exact h r (by rw[hr,hn,hx])
theorem _root_.Go.Gl.aI.ly{B:aD}{L M R:List aD}(h:aI L M R):aI (B::L) M (B::R):=by
 induction h with
 |nil=>exact .nil
 |cons t _ ih=>exact .cons (.skip t) ih
theorem _root_.Go.Gl.Rd.on{A L R:List aD}{s:av}{m:Nat}{ys:List Value}(h:Rd ρ A s m ys)(t:aI L A R):Rd ρ L s m ys:=⟨h.1,fun w hw=>h.2 w (hw.perm t.perm).left⟩
theorem _root_.Go.Gl.Rd.len{A:List aD}{s:av}{xs:List Int}(hr:Rd ρ A s 1 (xs.map i64)):s.n=xs.length:=by have:=hr.1;simpa using this.symm
theorem jg{A R:List aD}{s:av}{xs:List Int}{i:Int}{f:Int→Tree}(hr:Rd ρ A s 1 (xs.map i64))(t:aI L A R)(h0:0≤i)(h1:i<xs.length)(h:Tr ρ0 ρ L (f (xs.getD i.toNat 0)) Post):
  Tr ρ0 ρ L (ix s.a s.n i 1 fun a=>ld (.l kI) a f) Post:=fun hle w hw=>by
 have hn:=hr.len;rcases(hr.on t).2 w hw with h2|⟨b,off,hs,hc⟩;·omega
 ·refine⟨⟨b,off,none⟩,hs,h0,ae,xs.getD _ 0,?_,h hle w hw⟩;rw[aO,Nat.mul_one,hc i.toNat fC];exact getD_map ae
theorem fO{M:List aD}{s:av}{xs:List Int}{i:Int}{f:Int→Tree}(hr:fx ρ s 1 (xs.map i64))(h0:0≤i)(h1:i<xs.length)(h:Tr ρ0 ρ L (f (xs.getD i.toNat 0)) Post):
  Tr ρ0 ρ L (ix s.a s.n i 1 fun a=>rb (Sat ρ M) (.l kI) a f) Post:=by
 have hn:=hr.len;refine bz hr h0 ae fun a0 ha=>?_;obtain⟨h1,hr|⟨b,off,cs,ty,fr,g1,g2,g3⟩⟩:=hr;·omega
 ·rw[ha]at g1;injection g1 with g1;exact xZ (by rw[g1,aO,Nat.mul_one]) g2 (by rw[g3 _ fC];exact getD_map ae) h
end
end Go.Proofs.YtjginndmmlkjiaaGreat
namespace Go.Gl
open Go
variable{ρ0 ρ:FR}{L L':List aD}{Post:Value→List aD→Prop}
theorem zC{M:List aD}{s:av}{m:Nat}{xs:List Value}{k:LK}{a a0:Addr}{f:LT k→Tree}{j:Nat}{x:LT k}(hs:s.a=some a0)(hr:fx ρ s m xs)(ha:∀b o,a0=⟨b,o,none⟩→a=⟨b,o+j,none⟩)
  (hx:xs[j]? =some (k.val x)) (h:Tr ρ0 ρ L (f x) Post):Tr ρ0 ρ L (xY (Sat ρ M) k a f) Post:=by
 have hj:j<xs.length:=by grind
 obtain⟨h1,hr|⟨b,off,cs,ty,fr,g1,g2,g3⟩⟩:=hr;·grind
 ·rw[hs]at g1;injection g1 with g1;exact xZ (ha b _ g1) g2 (by rw[g3 j hj,hx]) h
theorem zR{s:av}{m:Nat}{xs:List Value}{a0 a:Addr}{j:Nat}(hs:s.a=some a0)(hr:fx ρ s m xs)(ha:∀b o,a0=⟨b,o,none⟩→a=⟨b,o+j,none⟩):
  ∀(ks:List LK) (i:Nat) {f:LTs ks→Tree} {x:LTs ks} (_:∀e v,(fq ks x)[e]? =some v→xs[j+i+e]? =some v) (_:Tr ρ0 ρ L (f x) Post),Tr ρ0 ρ L (JL a i ks f) Post
 |[],i,f,x,_,h=>h
 |k::ks,i,f,x,hv,h=>by exact cu hs hr (fun b o e=>by rw[ha b o e,aO,Nat.add_assoc]) (by simpa using hv 0 _ rfl)<|zR hs hr ha _ _ (fun e v he=>by have:=hv (e+1) v he;grind) h
theorem kU{s:av}{m:Nat}{xs:List Value}{a0 a:Addr}{j:Nat}{ks:List LK}{f:LTs ks→Tree}{x:LTs ks}(hs:s.a=some a0)(hr:fx ρ s m xs)(ha:∀b o,a0=⟨b,o,none⟩→a=⟨b,o+j,none⟩)
  (hv:∀e v,(fq ks x)[e]? =some v→xs[j+0+e]? =some v) (h:Tr ρ0 ρ L (f x) Post):Tr ρ0 ρ L (ld (.g ks) a f) Post:=zR hs hr ha ks 0 hv h
end Go.Gl
namespace Go.Proofs.YtjginndmmlkjiaaGreat
section
open Go Go.Gl
variable{ρ0 ρ:FR}{L L':List aD}{Post:Value→List aD→Prop}{T:Tree}
namespace Gr
end Gr
theorem Bm(s:av)(l:List Int)(ro:fx ρ s 1 (l.map i64))(hl:l.length<2^62)(x:Int):Gl.Spec ρ Zp 33 [.slice s.a s.n s.c,i64 x] [] RB fun r M=>r=decide (x∈l)∧M=[]:=by
 refine So (F.ah.In.calls s x) fun R=>?_;have hsn:=ro.len;refine aM (fun m u M=>(fun(i:Int)=>M=R∧0≤i∧i≤l.length∧m=l.length-i.toNat∧x∉l.take i.toNat) u.1) l.length ?_ ?_;·simp
 ·rintro m ⟨(i:Int),⟨⟩⟩ M ⟨rfl,i0,i1,rfl,hn⟩ X hX;refine ag (fun h=>?_) (fun h=>?_)
  ·replace h:i<(s.n:Int):=oT h;have hi:i.toNat<l.length:=by omega
   refine cC ro i0 ae<|ag (fun h2=>?_) (fun h2=>?_)
   ·have hin:x∈l:=by grind
    refine ax ?_ ⟨rfl,rfl⟩ ar bE;rw[decide_eq_true hin];rfl
   ·rw[bG];refine hX _ _ _ ae ⟨rfl,bq,bq,rfl,?_⟩;rw[show(i+1).toNat=i.toNat+1 by omega,aE 0 hi,List.mem_append,List.mem_singleton];grind
  ·replace h:¬i<(s.n:Int):=oF h;rw[List.take_of_length_le ae]at hn;refine ax ?_ ⟨rfl,rfl⟩ ar bE;rw[decide_eq_false hn];rfl
end
section
open Go Go.Gl
set_option maxRecDepth 100000
def F.aa.xW(p0:Int):Tree:=cP 100 [i64 p0] fun r1=>nw 106 [pV r1,.slice none 0 0] fun b2=>ret (pV (some (aB b2)))
theorem F.aa.xW.calls(p0:Int):Cf 39 [i64 p0] (F.aa.xW p0):=Tryz.cd az.z Tryz.func39
def F.aa.lG.T:az:=⟨fun _=>[],fun _=>none,(fun|1=> .held (some 0) (.two (.go 0 true (gF [1,2,3,4] .nil)) (gF [1] (.go 0 true (gF [2,3,4] .nil))))|_=> .quiet)⟩
def F.aa.lG:Tree:=cD<|Gl.held fun S1=>both (cM Zp (Instr.makeSlice 43 (i64 512) (i64 512)) (.one (.l .slice)) fun(r2:av)=>cM Zp (Instr.makeSlice 43 (i64 512) (i64 512)) (.one (.l .slice)) fun(r3:av)=>nw 167 [sV r2,sV r3] fun b4=>ret (pV (some (aB b4)))) (cM Zp (Instr.makeSlice 43 (i64 512) (i64 512)) (.one (.l .slice)) fun(r5:av)=>aZ S1<|cM Zp (Instr.makeSlice 43 (i64 512) (i64 512)) (.one (.l .slice)) fun(r6:av)=>nw 167 [sV r6,sV r5] fun b7=>ret (pV (some (aB b7))))
theorem F.aa.lG.calls:Cf 40 [] (F.aa.lG):=Tryz.cd F.aa.lG.T Tryz.func40
def F.aa.aW.AG(p0:OA)(p1:Int):Tree:=nw 100 (zc Zp 100) fun b1=>br (decide ((p1:Int)<512)) (st (aB b1) [i64 0,i64 6]<|dG [kI,kI] (aB b1) fun x2=>ret (.agg #[i64 x2.1,i64 x2.2.1])) (dE ((512:Int)≠0)<|nn p0 fun a2=>dS (fa a2 0) fun x3=>ix x3.a x3.n (Int.tmod p1 512) 1 fun a4=>dI a4 fun x5=>br ((x5:Int)==0) (st (aB b1) [i64 0,i64 6]<|dG [kI,kI] (aB b1) fun x6=>ret (.agg #[i64 x6.1,i64 x6.2.1])) (dE ((512:Int)≠0)<|nn p0 fun a6=>dS (fa a6 1) fun x7=>ix x7.a x7.n (Int.tmod p1 512) 1 fun a8=>dI a8 fun x9=>br ((IntKind.wrap .i64 (Int.tdiv p1 512):Int) != (IntKind.wrap .i64 (x9+1))) (st (aB b1) [i64 0,i64 6]<|dG [kI,kI] (aB b1) fun x10=>ret (.agg #[i64 x10.1,i64 x10.2.1])) (nn p0 fun a10=>dS (fa a10 0) fun x11=>ix x11.a x11.n (Int.tmod p1 512) 1 fun a12=>dI a12 fun x13=>st (aB b1) [i64 x13,i64 0]<|dG [kI,kI] (aB b1) fun x14=>ret (.agg #[i64 x14.1,i64 x14.2.1]))))
theorem F.aa.aW.AG.calls(p0:OA)(p1:Int):Cf 42 [pV p0,i64 p1] (F.aa.aW.AG p0 p1):=Tryz.cd az.z Tryz.func42
def F.aa.bN.Field(p0:OA)(p1 p2:Int):Tree:=nw 100 (zc Zp 100) fun b1=>cG 123 [pV p0,i64 p1] [kI,kI,kI,.bool,.bool] fun r2=>nw 172 (zc Zp 172) fun b3=>st (aB b3) [i64 r2.1,i64 r2.2.1,i64 r2.2.2.1,.bool r2.2.2.2.1,.bool r2.2.2.2.2.1]<|dB (fa (aB b3) 4) fun x4=>br (!x4) (st (aB b1) [i64 0,i64 2]<|dG [kI,kI] (aB b1) fun x5=>ret (.agg #[i64 x5.1,i64 x5.2.1])) (br (decide ((p2:Int)<0)) (st (aB b1) [i64 0,i64 1]<|dG [kI,kI] (aB b1) fun x5=>ret (.agg #[i64 x5.1,i64 x5.2.1])) (dI (fa (fa (aB b3) 0) 2) fun x5=>br (decide ((p2:Int)≥x5)) (st (aB b1) [i64 0,i64 1]<|dG [kI,kI] (aB b1) fun x6=>ret (.agg #[i64 x6.1,i64 x6.2.1])) (nn p0 fun a6=>dP (fa a6 0) fun x7=>nn x7 fun a8=>dS (fa a8 0) fun x9=>ix x9.a x9.n (IntKind.wrap .i64 ((IntKind.wrap .i64 (p1+1))+p2)) 1 fun a10=>dI a10 fun x11=>st (aB b1) [i64 x11,i64 0]<|dG [kI,kI] (aB b1) fun x12=>ret (.agg #[i64 x12.1,i64 x12.2.1]))))
theorem F.aa.bN.Field.calls(p0:OA)(p1 p2:Int):Cf 47 [pV p0,i64 p1,i64 p2] (F.aa.bN.Field p0 p1 p2):=Tryz.cd az.z Tryz.func47
def F.aa.bN.Ge(p0:OA)(p1 p2 p3:Int):Tree:=cG 47 [pV p0,i64 p1,i64 p2] [kI,kI] fun r1=>nw 100 (zc Zp 100) fun b2=>st (aB b2) [i64 r1.1,i64 r1.2.1]<|dI (fa (aB b2) 1) fun x3=>br ((x3:Int)==0) (nn p0 fun a4=>dP (fa a4 0) fun x5=>nn x5 fun a6=>dS (fa a6 0) fun x7=>ix x7.a x7.n (IntKind.wrap .i64 ((IntKind.wrap .i64 (p1+1))+p2)) 1 fun a8=>st a8 [i64 p3]<|dI (fa (aB b2) 1) fun x9=>ret (i64 x9)) (dI (fa (aB b2) 1) fun x4=>ret (i64 x4))
theorem F.aa.bN.Ge.calls(p0:OA)(p1 p2 p3:Int):Cf 49 [pV p0,i64 p1,i64 p2,i64 p3] (F.aa.bN.Ge p0 p1 p2 p3):=Tryz.cd az.z Tryz.func49
def F.aa.aW.Drop(p0:OA)(p1:Int):Tree:=cG 42 [pV p0,i64 p1] [kI,kI] fun r1=>nw 100 (zc Zp 100) fun b2=>st (aB b2) [i64 r1.1,i64 r1.2.1]<|dI (fa (aB b2) 1) fun x3=>br ((x3:Int)==0) (dE ((512:Int)≠0)<|nn p0 fun a4=>dS (fa a4 0) fun x5=>ix x5.a x5.n (Int.tmod p1 512) 1 fun a6=>st a6 [i64 0]<|nn p0 fun a7=>dS (fa a7 1) fun x8=>ix x8.a x8.n (Int.tmod p1 512) 1 fun a9=>dI a9 fun x10=>ix x8.a x8.n (Int.tmod p1 512) 1 fun a11=>st a11 [i64 (IntKind.wrap .i64 (x10+1))]<|dI (fa (aB b2) 1) fun x12=>ret (i64 x12)) (dI (fa (aB b2) 1) fun x4=>ret (i64 x4))
theorem F.aa.aW.Drop.calls(p0:OA)(p1:Int):Cf 50 [pV p0,i64 p1] (F.aa.aW.Drop p0 p1):=Tryz.cd az.z Tryz.func50
def F.aa.Refs.vf(p0:OA)(p1 p2 p3:Int):Tree:=br (decide ((p1:Int)<1)) (ret (i64 1)) (br (decide ((p1:Int)>3)) (ret (i64 1)) (br ((p3:Int) != (-1)) (cB 126 [pV p0,i64 p3] fun r1=>br (!r1) (ret (i64 2)) (br ((p1:Int)==3) (br ((p3:Int)==(-1)) (ret (i64 1)) (nn p0 fun a2=>dP (fa a2 0) fun x3=>cG 123 [pV x3,i64 p2] [kI,kI,kI,.bool,.bool] fun r4=>br (!r4.2.2.2.2.1) (ret (i64 2)) (ret (i64 0)))) (nn p0 fun a2=>dP (fa a2 0) fun x3=>cG 123 [pV x3,i64 p2] [kI,kI,kI,.bool,.bool] fun r4=>br (!r4.2.2.2.2.1) (ret (i64 2)) (ret (i64 0))))) (br ((p1:Int)==3) (br ((p3:Int)==(-1)) (ret (i64 1)) (nn p0 fun a1=>dP (fa a1 0) fun x2=>cG 123 [pV x2,i64 p2] [kI,kI,kI,.bool,.bool] fun r3=>br (!r3.2.2.2.2.1) (ret (i64 2)) (ret (i64 0)))) (nn p0 fun a1=>dP (fa a1 0) fun x2=>cG 123 [pV x2,i64 p2] [kI,kI,kI,.bool,.bool] fun r3=>br (!r3.2.2.2.2.1) (ret (i64 2)) (ret (i64 0))))))
theorem F.aa.Refs.vf.calls(p0:OA)(p1 p2 p3:Int):Cf 51 [pV p0,i64 p1,i64 p2,i64 p3] (F.aa.Refs.vf p0 p1 p2 p3):=Tryz.cd az.z Tryz.func51
def F.aa.Refs.Clear.T:az:=⟨(fun|2=>[(5,kI)]|7=>[(6,kI)]|_=>[]),fun _=>none,(fun|9=> .tail 8 |_=> .quiet)⟩
def F.aa.Refs.Clear(p0:OA)(p1:av):Tree:=lp [kI] (fun X1 u2=>br (decide ((u2.1:Int)<(p1.n:Nat))) (ix p1.a p1.n u2.1 1 fun a3=>dI a3 fun x4=>cB 128 [pV p0,i64 x4] fun r5=>br (!r5) (ret (i64 5)) (X1 (IntKind.wrap .i64 (u2.1+1),()))) (lp [kI] (fun X3 u4=>br (decide ((u4.1:Int)<(p1.n:Nat))) (cD<|nn p0 fun a5=>dP (fa a5 0) fun x6=>ix p1.a p1.n u4.1 1 fun a7=>dI a7 fun x8=>cI 49 [pV x6,i64 x8,i64 0,i64 0] fun r9=>X3 (IntKind.wrap .i64 (u4.1+1),())) (ret (i64 0))) (0,()))) (0,())
theorem F.aa.Refs.Clear.calls(p0:OA)(p1:av):Cf 53 [pV p0,sV p1] (F.aa.Refs.Clear p0 p1):=Tryz.cd F.aa.Refs.Clear.T Tryz.func53
def F.aa.Refs.lR(p0:OA)(p1:Int):Tree:=nw 100 (zc Zp 100) fun b1=>cB 128 [pV p0,i64 p1] fun r2=>br (!r2) (st (aB b1) [i64 0,i64 5]<|dG [kI,kI] (aB b1) fun x3=>ret (.agg #[i64 x3.1,i64 x3.2.1])) (nn p0 fun a3=>dP (fa a3 0) fun x4=>cI 49 [pV x4,i64 p1,i64 0,i64 0] fun r5=>nn p0 fun a6=>dP (fa a6 0) fun x7=>cG 47 [pV x7,i64 p1,i64 1] [kI,kI] fun r8=>br (decide ((r8.1:Int)<1)) (st (aB b1) [i64 0,i64 0]<|dG [kI,kI] (aB b1) fun x9=>ret (.agg #[i64 x9.1,i64 x9.2.1])) (cI 129 [pV p0,i64 (IntKind.wrap .i64 (r8.1-1)),i64 p1] fun r9=>nn p0 fun a10=>dP (fa a10 0) fun x11=>cI 49 [pV x11,i64 p1,i64 1,i64 (-1)] fun r12=>st (aB b1) [i64 1,i64 0]<|dG [kI,kI] (aB b1) fun x13=>ret (.agg #[i64 x13.1,i64 x13.2.1])))
theorem F.aa.Refs.lR.calls(p0:OA)(p1:Int):Cf 54 [pV p0,i64 p1] (F.aa.Refs.lR p0 p1):=Tryz.cd az.z Tryz.func54
def F.aa.Refs.Open(p0:OA):Tree:=nw 100 (zc Zp 100) fun b1=>nn p0 fun a2=>dS (fa a2 1) fun x3=>br (decide (((x3.n:Nat):Int)≥8)) (st (aB b1) [i64 0,i64 3]<|dG [kI,kI] (aB b1) fun x4=>ret (.agg #[i64 x4.1,i64 x4.2.1])) (nn p0 fun a4=>dS (fa a4 1) fun x5=>nw 43 [.slice none 0 0] fun b6=>ap 44 (sV x5) (.slice (some ⟨b6,0,none⟩) 1 1) fun r7=>nn p0 fun a8=>st (fa a8 1) [sV r7]<|nn p0 fun a9=>dS (fa a9 1) fun x10=>st (aB b1) [i64 (IntKind.wrap .i64 ((x10.n:Nat)-1)),i64 0]<|dG [kI,kI] (aB b1) fun x11=>ret (.agg #[i64 x11.1,i64 x11.2.1]))
theorem F.aa.Refs.Open.calls(p0:OA):Cf 55 [pV p0] (F.aa.Refs.Open p0):=Tryz.cd az.z Tryz.func55
def F.aa.aW.Room(p0:OA):Tree:=cS 76 [pV p0] fun r1=>ret (i64 (IntKind.wrap .i64 (512-(r1.n:Nat))))
theorem F.aa.aW.Room.calls(p0:OA):Cf 56 [pV p0] (F.aa.aW.Room p0):=Tryz.cd az.z Tryz.func56
def F.aa.Refs.Poll.T:az:=⟨fun _=>[],fun _=>none,(fun|6=> .held (some 16) (gF [0,1,2,3,4,6,7,8,9,10,11,12,13,5,14,15] (.go 16 true .nil))|_=> .quiet)⟩
def F.aa.Refs.Poll(p0:OA)(p1:Int):Tree:=nw 100 (zc Zp 100) fun b1=>cB 126 [pV p0,i64 p1] fun r2=>br (!r2) (st (aB b1) [i64 0,i64 2]<|dG [kI,kI] (aB b1) fun x3=>ret (.agg #[i64 x3.1,i64 x3.2.1])) (nn p0 fun a3=>dS (fa a3 1) fun x4=>ix x4.a x4.n p1 1 fun a5=>dS a5 fun x6=>br (((x6.n:Nat):Int)==0) (st (aB b1) [i64 0,i64 0]<|dG [kI,kI] (aB b1) fun x7=>ret (.agg #[i64 x7.1,i64 x7.2.1])) (nn p0 fun a7=>dS (fa a7 1) fun x8=>ix x8.a x8.n p1 1 fun a9=>dS a9 fun x10=>ix x10.a x10.n 0 1 fun a11=>dI a11 fun x12=>cD<|Gl.held fun S13=>nn p0 fun a14=>eS S13 (fa a14 1) fun x15=>nn p0 fun a16=>eS S13 (fa a16 1) fun x17=>ix x17.a x17.n p1 1 fun a18=>eS S13 a18 fun x19=>sG x19.a x19.c 1 (x19.n:Nat) 1 fun s20=>nw 3 [] fun b21=>aZ S13<|ap 43 (.slice (some ⟨b21,0,none⟩) 0 0) (sV s20) fun r22=>aZ S13<|ix x15.a x15.n p1 1 fun a23=>st a23 [sV r22]<|nn p0 fun a24=>dP (fa a24 0) fun x25=>cI 49 [pV x25,i64 x12,i64 2,i64 0] fun r26=>st (aB b1) [i64 x12,i64 0]<|dG [kI,kI] (aB b1) fun x27=>ret (.agg #[i64 x27.1,i64 x27.2.1])))
theorem F.aa.Refs.Poll.calls(p0:OA)(p1:Int):Cf 57 [pV p0,i64 p1] (F.aa.Refs.Poll p0 p1):=Tryz.cd F.aa.Refs.Poll.T Tryz.func57
def F.aa.cj.uB(p0:OA)(p1:Int):Tree:=nn p0 fun a1=>dP (fa a1 0) fun x2=>cI 130 [pV x2,i64 p1] fun r3=>br ((r3:Int)==0) (nw 3 [] fun b4=>nn p0 fun a5=>dS (fa a5 1) fun x6=>ap 43 (.slice (some ⟨b4,0,none⟩) 0 0) (sV x6) fun r7=>nw 3 [i64 p1] fun b8=>ap 43 (sV r7) (.slice (some ⟨b8,0,none⟩) 1 1) fun r9=>nn p0 fun a10=>st (fa a10 1) [sV r9]<|ret (i64 r3)) (ret (i64 r3))
theorem F.aa.cj.uB.calls(p0:OA)(p1:Int):Cf 58 [pV p0,i64 p1] (F.aa.cj.uB p0 p1):=Tryz.cd az.z Tryz.func58
def F.aa.oH.T:az:=⟨(fun|3=>[(5,kI),(6,kI)]|_=>[]),fun _=>none,fun _=> .quiet⟩
def F.aa.oH(p0:Int)(p1:av):Tree:=lp [kI,kI] (fun X1 u2=>br (decide ((u2.2.1:Int)<(p1.n:Nat))) (ix p1.a p1.n u2.2.1 1 fun a3=>dI a3 fun x4=>br (decide (((if(x4:Int)>0 then(x4:Int)else 0):Int)>(IntKind.wrap .i64 (9223372036854775807-u2.1)))) (ret (i64 9223372036854775807)) (X1 (IntKind.wrap .i64 (u2.1+(if(x4:Int)>0 then(x4:Int)else 0)),IntKind.wrap .i64 (u2.2.1+1),()))) (ret (i64 u2.1))) ((if(p0:Int)>0 then(p0:Int)else 0),0,())
theorem F.aa.oH.calls(p0:Int)(p1:av):Cf 61 [i64 p0,sV p1] (F.aa.oH p0 p1):=Tryz.cd F.aa.oH.T Tryz.func61
def F.aa.oq.T:az:=⟨(fun|4=>[(5,kI)]|_=>[]),fun _=>none,(fun|6=> .tail 35 |_=> .quiet)⟩
def F.aa.oq(p0 p1:av):Tree:=br (((p0.n:Nat):Int) != (p1.n:Nat)) (ret (.bool false)) (lp [kI] (fun X1 u2=>br (decide ((u2.1:Int)<(p0.n:Nat))) (cD<|ix p0.a p0.n u2.1 6 fun a3=>dI (fa a3 0) fun x4=>ix p1.a p1.n u2.1 6 fun a5=>dI (fa a5 0) fun x6=>br ((x4:Int) != x6) (ret (.bool false)) (ix p0.a p0.n u2.1 6 fun a7=>dG [kI,kI,kI,.bool] (fa a7 1) fun x8=>ix p1.a p1.n u2.1 6 fun a9=>dG [kI,kI,kI,.bool] (fa a9 1) fun x10=>br (!(((x8.1:Int)==x10.1)&&(((x8.2.1:Int)==x10.2.1)&&(((x8.2.2.1:Int)==x10.2.2.1)&&((x8.2.2.2.1==x10.2.2.2.1)&&true))))) (ret (.bool false)) (ix p0.a p0.n u2.1 6 fun a11=>dS (fa a11 5) fun x12=>ix p1.a p1.n u2.1 6 fun a13=>dS (fa a13 5) fun x14=>cB 31 [sV x12,sV x14] fun r15=>br (!r15) (ret (.bool false)) (X1 (IntKind.wrap .i64 (u2.1+1),()))))) (ret (.bool true))) (0,()))
theorem F.aa.oq.calls(p0 p1:av):Cf 65 [sV p0,sV p1] (F.aa.oq p0 p1):=Tryz.cd F.aa.oq.T Tryz.func65
def F.aa.nY.T:az:=⟨(fun|4=>[(5,kI)]|_=>[]),fun _=>none,(fun|6=> .quiet|_=> .quiet)⟩
def F.aa.nY(p0 p1:av):Tree:=br (((p0.n:Nat):Int) != (p1.n:Nat)) (ret (.bool false)) (lp [kI] (fun X1 u2=>br (decide ((u2.1:Int)<(p0.n:Nat))) (cD<|ix p0.a p0.n u2.1 2 fun a3=>dG [kI,kI] a3 fun x4=>ix p1.a p1.n u2.1 2 fun a5=>dG [kI,kI] a5 fun x6=>br (!(((x4.1:Int)==x6.1)&&(((x4.2.1:Int)==x6.2.1)&&true))) (ret (.bool false)) (X1 (IntKind.wrap .i64 (u2.1+1),()))) (ret (.bool true))) (0,()))
theorem F.aa.nY.calls(p0 p1:av):Cf 66 [sV p0,sV p1] (F.aa.nY p0 p1):=Tryz.cd F.aa.nY.T Tryz.func66
def F.aa.bN.iQ.T:az:=⟨(fun|4=>[(3,.slice),(5,kI)]|_=>[]),fun _=>none,(fun|7=> .held (some 32) (gF [0,1,2,3,4,5,6,8,9,10,11,12,13,14,15,16,17,18,19,20,21,22,23,24,25,26,27,28,29,7,30,31] (.go 32 true (gF [33,34] .nil)))|_=> .quiet)⟩
def F.aa.bN.iQ(p0:OA):Tree:=nn p0 fun a1=>dP (fa a1 0) fun x2=>cS 64 [pV x2] fun r3=>lp [.slice,kI] (fun X4 u5=>br (decide ((u5.2.1:Int)<(r3.n:Nat))) (ix r3.a r3.n u5.2.1 1 fun a6=>dI a6 fun x7=>cG 123 [pV p0,i64 x7] [kI,kI,kI,.bool,.bool] fun r8=>nw 172 (zc Zp 172) fun b9=>st (aB b9) [i64 r8.1,i64 r8.2.1,i64 r8.2.2.1,.bool r8.2.2.2.1,.bool r8.2.2.2.2.1]<|cD<|Gl.held fun S10=>ix r3.a r3.n u5.2.1 1 fun a11=>eI S10 a11 fun x12=>eG S10 [kI,kI,kI,.bool] (fa (aB b9) 0) fun x13=>nn p0 fun a14=>eP S10 (fa a14 0) fun x15=>nn x15 fun a16=>eS S10 (fa a16 0) fun x17=>ix r3.a r3.n u5.2.1 1 fun a18=>eI S10 a18 fun x19=>ix r3.a r3.n u5.2.1 1 fun a20=>eI S10 a20 fun x21=>eI S10 (fa (fa (aB b9) 0) 2) fun x22=>sG x17.a x17.c (IntKind.wrap .i64 (x19+1)) (IntKind.wrap .i64 ((IntKind.wrap .i64 (x21+1))+x22)) 1 fun s23=>nw 3 [] fun b24=>aZ S10<|ap 43 (.slice (some ⟨b24,0,none⟩) 0 0) (sV s23) fun r25=>aZ S10<|nw 74 [i64 x12,i64 x13.1,i64 x13.2.1,i64 x13.2.2.1,.bool x13.2.2.2.1,sV r25] fun b26=>ap 41 (sV u5.1) (.slice (some ⟨b26,0,none⟩) 1 1) fun r27=>X4 (r27,IntKind.wrap .i64 (u5.2.1+1),())) (ret (sV u5.1))) (⟨none,0,0⟩,0,())
theorem F.aa.bN.iQ.calls(p0:OA):Cf 75 [pV p0] (F.aa.bN.iQ p0):=Tryz.cd F.aa.bN.iQ.T Tryz.func75
def F.aa.aW.sW.T:az:=⟨(fun|3=>[(3,.slice),(4,kI)]|_=>[]),fun _=>none,(fun|6=> .held (some 20) (gF [0,1,2,3,4,5,6,7,8,9,10,11,12,13,14,15,16,17,18,19] (.go 20 true (gF [21,22] .nil)))|_=> .quiet)⟩
def F.aa.aW.sW(p0:OA):Tree:=lp [.slice,kI] (fun X1 u2=>nn p0 fun a3=>dS (fa a3 0) fun x4=>br (decide ((u2.2.1:Int)<(x4.n:Nat))) (nn p0 fun a5=>dS (fa a5 0) fun x6=>ix x6.a x6.n u2.2.1 1 fun a7=>dI a7 fun x8=>br ((x8:Int) != 0) (cD<|Gl.held fun S9=>nn p0 fun a10=>eS S9 (fa a10 1) fun x11=>ix x11.a x11.n u2.2.1 1 fun a12=>eI S9 a12 fun x13=>nn p0 fun a14=>eS S9 (fa a14 0) fun x15=>ix x15.a x15.n u2.2.1 1 fun a16=>eI S9 a16 fun x17=>nw 191 [i64 (IntKind.wrap .i64 (u2.2.1+(IntKind.wrap .i64 (512*(IntKind.wrap .i64 (x13+1)))))),i64 x17] fun b18=>ap 42 (sV u2.1) (.slice (some ⟨b18,0,none⟩) 1 1) fun r19=>X1 (r19,IntKind.wrap .i64 (u2.2.1+1),())) (X1 (u2.1,IntKind.wrap .i64 (u2.2.1+1),()))) (ret (sV u2.1))) (⟨none,0,0⟩,0,())
theorem F.aa.aW.sW.calls(p0:OA):Cf 76 [pV p0] (F.aa.aW.sW p0):=Tryz.cd F.aa.aW.sW.T Tryz.func76
def F.aa.cj.Take.T:az:=⟨fun _=>[],fun _=>none,(fun|4=> .held (some 16) (gF [0,2,3,4,5,6,7,9,10,11,12,13,14,15,1,8] (.go 16 true (gF [17,18,19] .nil)))|_=> .quiet)⟩
def F.aa.cj.Take(p0:OA)(p1:Int):Tree:=nw 100 (zc Zp 100) fun b1=>br (decide ((p1:Int)<0)) (st (aB b1) [i64 0,i64 1]<|dG [kI,kI] (aB b1) fun x2=>ret (.agg #[i64 x2.1,i64 x2.2.1])) (nn p0 fun a2=>dS (fa a2 2) fun x3=>br (decide ((p1:Int)≥(x3.n:Nat))) (st (aB b1) [i64 0,i64 1]<|dG [kI,kI] (aB b1) fun x4=>ret (.agg #[i64 x4.1,i64 x4.2.1])) (nn p0 fun a4=>dS (fa a4 2) fun x5=>ix x5.a x5.n p1 1 fun a6=>dI a6 fun x7=>cD<|Gl.held fun S8=>nn p0 fun a9=>eS S8 (fa a9 2) fun x10=>sG x10.a x10.c 0 p1 1 fun s11=>nn p0 fun a12=>eS S8 (fa a12 2) fun x13=>sG x13.a x13.c (IntKind.wrap .i64 (p1+1)) (x13.n:Nat) 1 fun s14=>nw 3 [] fun b15=>aZ S8<|ap 43 (.slice (some ⟨b15,0,none⟩) 0 0) (sV s11) fun r16=>aZ S8<|ap 43 (sV r16) (sV s14) fun r17=>nn p0 fun a18=>st (fa a18 2) [sV r17]<|st (aB b1) [i64 x7,i64 0]<|dG [kI,kI] (aB b1) fun x19=>ret (.agg #[i64 x19.1,i64 x19.2.1])))
theorem F.aa.cj.Take.calls(p0:OA)(p1:Int):Cf 80 [pV p0,i64 p1] (F.aa.cj.Take p0 p1):=Tryz.cd F.aa.cj.Take.T Tryz.func80
def F.aa.bN.Add.T:az:=⟨fun _=>[],fun _=>none,(fun|5=> .held (some 13) (gF [0,1,2,3,4,5,6,8,9,7,10,11,12] (.go 13 true (gF [14,15,16] .nil)))|_=> .quiet)⟩
def F.aa.bN.Add(p0:OA)(p1:LTs [kI,.slice]):Tree:=nw 109 [i64 p1.1,sV p1.2.1] fun b1=>nw 100 (zc Zp 100) fun b2=>dG [kI,.slice] (aB b1) fun x3=>cB 180 [.agg #[i64 x3.1,sV x3.2.1]] fun r4=>br (!r4) (st (aB b2) [i64 0,i64 1]<|dG [kI,kI] (aB b2) fun x5=>ret (.agg #[i64 x5.1,i64 x5.2.1])) (nn p0 fun a5=>dS (fa a5 1) fun x6=>br (decide (((x6.n:Nat):Int)≥256)) (st (aB b2) [i64 0,i64 3]<|dG [kI,kI] (aB b2) fun x7=>ret (.agg #[i64 x7.1,i64 x7.2.1])) (cD<|Gl.held fun S7=>nn p0 fun a8=>eS S7 (fa a8 1) fun x9=>eI S7 (fa (aB b1) 0) fun x10=>eS S7 (fa (aB b1) 1) fun x11=>nw 3 [] fun b12=>aZ S7<|ap 43 (.slice (some ⟨b12,0,none⟩) 0 0) (sV x11) fun r13=>aZ S7<|nw 109 [i64 x10,sV r13] fun b14=>aZ S7<|ap 104 (sV x9) (.slice (some ⟨b14,0,none⟩) 1 1) fun r15=>nn p0 fun a16=>st (fa a16 1) [sV r15]<|nn p0 fun a17=>dS (fa a17 1) fun x18=>st (aB b2) [i64 (x18.n:Nat),i64 0]<|dG [kI,kI] (aB b2) fun x19=>ret (.agg #[i64 x19.1,i64 x19.2.1])))
theorem F.aa.bN.Add.calls(p0:OA)(p1:LTs [kI,.slice]):Cf 121 [pV p0,.agg #[i64 p1.1,sV p1.2.1]] (F.aa.bN.Add p0 p1):=Tryz.cd F.aa.bN.Add.T Tryz.func121
def F.aa.bN.Head(p0:OA)(p1:Int):Tree:=nw 172 (zc Zp 172) fun b1=>nn p0 fun a2=>dP (fa a2 0) fun x3=>cG 135 [pV x3,i64 p1] [kI,kI,.bool] fun r4=>nw 186 (zc Zp 186) fun b5=>st (aB b5) [i64 r4.1,i64 r4.2.1,.bool r4.2.2.1]<|dB (fa (aB b5) 2) fun x6=>br (!x6) (st (aB b1) [i64 0,i64 0,i64 0,.bool false,.bool false]<|dG [kI,kI,kI,.bool,.bool] (aB b1) fun x7=>ret (.agg #[i64 x7.1,i64 x7.2.1,i64 x7.2.2.1,.bool x7.2.2.2.1,.bool x7.2.2.2.2.1])) (dI (fa (aB b5) 0) fun x7=>br ((x7:Int) != p1) (st (aB b1) [i64 0,i64 0,i64 0,.bool false,.bool false]<|dG [kI,kI,kI,.bool,.bool] (aB b1) fun x8=>ret (.agg #[i64 x8.1,i64 x8.2.1,i64 x8.2.2.1,.bool x8.2.2.2.1,.bool x8.2.2.2.2.1])) (nn p0 fun a8=>dP (fa a8 0) fun x9=>nn x9 fun a10=>dS (fa a10 0) fun x11=>ix x11.a x11.n p1 1 fun a12=>dI a12 fun x13=>cG 183 [i64 x13] [kI,kI,kI,.bool,.bool] fun r14=>st (aB b1) [i64 r14.1,i64 r14.2.1,i64 r14.2.2.1,.bool r14.2.2.2.1,.bool r14.2.2.2.2.1]<|dG [kI,kI,kI,.bool,.bool] (aB b1) fun x15=>ret (.agg #[i64 x15.1,i64 x15.2.1,i64 x15.2.2.1,.bool x15.2.2.2.1,.bool x15.2.2.2.2.1])))
theorem F.aa.bN.Head.calls(p0:OA)(p1:Int):Cf 123 [pV p0,i64 p1] (F.aa.bN.Head p0 p1):=Tryz.cd az.z Tryz.func123
def F.aa.bN.Refs.T:az:=⟨(fun|10=>[(6,.slice),(7,kI)]|_=>[]),fun _=>none,(fun|6=> .quiet|_=> .quiet)⟩
def F.aa.bN.Refs(p0:OA)(p1:Int):Tree:=cG 123 [pV p0,i64 p1] [kI,kI,kI,.bool,.bool] fun r1=>nw 172 (zc Zp 172) fun b2=>st (aB b2) [i64 r1.1,i64 r1.2.1,i64 r1.2.2.1,.bool r1.2.2.2.1,.bool r1.2.2.2.2.1]<|dB (fa (aB b2) 4) fun x3=>br (!x3) (ret (.slice none 0 0)) (dI (fa (fa (aB b2) 0) 0) fun x4=>br ((x4:Int)==1) (cD<|nn p0 fun a5=>dS (fa a5 1) fun x6=>dI (fa (fa (aB b2) 0) 1) fun x7=>ix x6.a x6.n (IntKind.wrap .i64 (x7-1)) 2 fun a8=>dS (fa a8 1) fun x9=>ret (sV x9)) (br ((x4:Int)==2) (lp [.slice,kI] (fun X5 u6=>dI (fa (fa (aB b2) 0) 2) fun x7=>br (decide ((u6.2.1:Int)<x7)) (nw 3 [i64 u6.2.1] fun b8=>ap 43 (sV u6.1) (.slice (some ⟨b8,0,none⟩) 1 1) fun r9=>X5 (r9,IntKind.wrap .i64 (u6.2.1+1),())) (ret (sV u6.1))) (⟨none,0,0⟩,0,())) (br ((x4:Int)==4) (nw 3 [i64 2] fun b5=>ret (.slice (some ⟨b5,0,none⟩) 1 1)) (ret (.slice none 0 0)))))
theorem F.aa.bN.Refs.calls(p0:OA)(p1:Int):Cf 124 [pV p0,i64 p1] (F.aa.bN.Refs p0 p1):=Tryz.cd F.aa.bN.Refs.T Tryz.func124
def F.aa.aW.tK.T:az:=⟨(fun|4=>[(5,kI)]|_=>[]),fun _=>none,fun _=> .quiet⟩
def F.aa.aW.tK(p0:OA)(p1:Int):Tree:=nw 100 (zc Zp 100) fun b1=>br (decide ((p1:Int)<1)) (st (aB b1) [i64 0,i64 1]<|dG [kI,kI] (aB b1) fun x2=>ret (.agg #[i64 x2.1,i64 x2.2.1])) (lp [kI] (fun X2 u3=>nn p0 fun a4=>dS (fa a4 0) fun x5=>br (decide ((u3.1:Int)<(x5.n:Nat))) (nn p0 fun a6=>dS (fa a6 0) fun x7=>ix x7.a x7.n u3.1 1 fun a8=>dI a8 fun x9=>br ((x9:Int)==0) (nn p0 fun a10=>dS (fa a10 0) fun x11=>ix x11.a x11.n u3.1 1 fun a12=>st a12 [i64 p1]<|nn p0 fun a13=>dS (fa a13 1) fun x14=>ix x14.a x14.n u3.1 1 fun a15=>dI a15 fun x16=>st (aB b1) [i64 (IntKind.wrap .i64 (u3.1+(IntKind.wrap .i64 (512*(IntKind.wrap .i64 (x16+1)))))),i64 0]<|dG [kI,kI] (aB b1) fun x17=>ret (.agg #[i64 x17.1,i64 x17.2.1])) (X2 (IntKind.wrap .i64 (u3.1+1),()))) (st (aB b1) [i64 0,i64 3]<|dG [kI,kI] (aB b1) fun x6=>ret (.agg #[i64 x6.1,i64 x6.2.1]))) (0,()))
theorem F.aa.aW.tK.calls(p0:OA)(p1:Int):Cf 125 [pV p0,i64 p1] (F.aa.aW.tK p0 p1):=Tryz.cd F.aa.aW.tK.T Tryz.func125
def F.aa.Refs.has(p0:OA)(p1:Int):Tree:=br (decide ((p1:Int)≥0)) (nn p0 fun a1=>dS (fa a1 1) fun x2=>ret (.bool (decide ((p1:Int)<(x2.n:Nat))))) (ret (.bool false))
theorem F.aa.Refs.has.calls(p0:OA)(p1:Int):Cf 126 [pV p0,i64 p1] (F.aa.Refs.has p0 p1):=Tryz.cd az.z Tryz.func126
def F.aa.Refs.lB(p0:OA)(p1 p2:Int):Tree:=nw 100 (zc Zp 100) fun b1=>cB 128 [pV p0,i64 p1] fun r2=>br (!r2) (st (aB b1) [i64 0,i64 5]<|dG [kI,kI] (aB b1) fun x3=>ret (.agg #[i64 x3.1,i64 x3.2.1])) (nn p0 fun a3=>dP (fa a3 0) fun x4=>cG 123 [pV x4,i64 p1] [kI,kI,kI,.bool,.bool] fun r5=>br ((r5.2.1:Int)==3) (st (aB b1) [i64 0,i64 0]<|dG [kI,kI] (aB b1) fun x6=>ret (.agg #[i64 x6.1,i64 x6.2.1])) (nn p0 fun a6=>dP (fa a6 0) fun x7=>cG 47 [pV x7,i64 p1,i64 0] [kI,kI] fun r8=>nw 100 (zc Zp 100) fun b9=>st (aB b9) [i64 r8.1,i64 r8.2.1]<|br ((r5.2.1:Int)==1) (dI (fa (aB b9) 0) fun x10=>br ((x10:Int) != 0) (nn p0 fun a11=>dP (fa a11 0) fun x12=>cI 49 [pV x12,i64 p1,i64 3,i64 p2] fun r13=>dG [kI,kI] (aB b9) fun x14=>st (aB b1) [i64 x14.1,i64 x14.2.1]<|dG [kI,kI] (aB b1) fun x15=>ret (.agg #[i64 x15.1,i64 x15.2.1])) (dG [kI,kI] (aB b9) fun x11=>st (aB b1) [i64 x11.1,i64 x11.2.1]<|dG [kI,kI] (aB b1) fun x12=>ret (.agg #[i64 x12.1,i64 x12.2.1]))) (dG [kI,kI] (aB b9) fun x10=>st (aB b1) [i64 x10.1,i64 x10.2.1]<|dG [kI,kI] (aB b1) fun x11=>ret (.agg #[i64 x11.1,i64 x11.2.1]))))
theorem F.aa.Refs.lB.calls(p0:OA)(p1 p2:Int):Cf 127 [pV p0,i64 p1,i64 p2] (F.aa.Refs.lB p0 p1 p2):=Tryz.cd az.z Tryz.func127
def F.aa.Refs.is(p0:OA)(p1:Int):Tree:=nn p0 fun a1=>dP (fa a1 0) fun x2=>cG 123 [pV x2,i64 p1] [kI,kI,kI,.bool,.bool] fun r3=>nw 172 (zc Zp 172) fun b4=>st (aB b4) [i64 r3.1,i64 r3.2.1,i64 r3.2.2.1,.bool r3.2.2.2.1,.bool r3.2.2.2.2.1]<|dB (fa (aB b4) 4) fun x5=>br x5 (dI (fa (fa (aB b4) 0) 0) fun x6=>ret (.bool ((x6:Int)==4))) (ret (.bool false))
theorem F.aa.Refs.is.calls(p0:OA)(p1:Int):Cf 128 [pV p0,i64 p1] (F.aa.Refs.is p0 p1):=Tryz.cd az.z Tryz.func128
def F.aa.Refs.pc.T:az:=⟨fun _=>[],(fun|9=>some []|_=>none),(fun|8=> .tail 16 |9=> .held (some 18) (gF [0,1,2,3,4,6,7,8,9,10,11,12,14] (.two (gF [5] (.two (gF [13,15,16,17] (.go 18 true .nil)) (gF [15,13,16,17] (.go 18 true .nil)))) (gF [15,5,13,16,17] (.go 18 true .nil))))|_=> .quiet)⟩
def F.aa.Refs.pc(p0:OA)(p1 p2:Int):Tree:=cB 126 [pV p0,i64 p1] fun r1=>br (!r1) (ret (i64 2)) (cB 128 [pV p0,i64 p2] fun r2=>br (!r2) (ret (i64 5)) (nn p0 fun a3=>dP (fa a3 0) fun x4=>cI 49 [pV x4,i64 p2,i64 2,i64 0] fun r5=>jn (fun(j7:LTs [])=>cD<|Gl.held fun S8=>nn p0 fun a9=>eS S8 (fa a9 1) fun x10=>nn p0 fun a11=>eS S8 (fa a11 1) fun x12=>ix x12.a x12.n p1 1 fun a13=>eS S8 a13 fun x14=>both (nw 3 [] fun b15=>aZ S8<|both (ap 43 (.slice (some ⟨b15,0,none⟩) 0 0) (sV x14) fun r16=>aZ S8<|nw 3 [i64 p2] fun b17=>aZ S8<|ap 43 (sV r16) (.slice (some ⟨b17,0,none⟩) 1 1) fun r18=>aZ S8<|ix x10.a x10.n p1 1 fun a19=>st a19 [sV r18]<|ret (i64 0)) (nw 3 [i64 p2] fun b20=>aZ S8<|ap 43 (.slice (some ⟨b15,0,none⟩) 0 0) (sV x14) fun r21=>aZ S8<|ap 43 (sV r21) (.slice (some ⟨b20,0,none⟩) 1 1) fun r22=>aZ S8<|ix x10.a x10.n p1 1 fun a23=>st a23 [sV r22]<|ret (i64 0))) (nw 3 [i64 p2] fun b24=>aZ S8<|nw 3 [] fun b25=>aZ S8<|ap 43 (.slice (some ⟨b25,0,none⟩) 0 0) (sV x14) fun r26=>aZ S8<|ap 43 (sV r26) (.slice (some ⟨b24,0,none⟩) 1 1) fun r27=>aZ S8<|ix x10.a x10.n p1 1 fun a28=>st a28 [sV r27]<|ret (i64 0))) fun J6=>nn p0 fun a29=>dS (fa a29 1) fun x30=>ix x30.a x30.n p1 1 fun a31=>dS a31 fun x32=>br (decide (((x32.n:Nat):Int)>0)) (cD<|nn p0 fun a33=>dP (fa a33 0) fun x34=>nn p0 fun a35=>dS (fa a35 1) fun x36=>ix x36.a x36.n p1 1 fun a37=>dS a37 fun x38=>ix x38.a x38.n (IntKind.wrap .i64 ((x32.n:Nat)-1)) 1 fun a39=>dI a39 fun x40=>cI 49 [pV x34,i64 x40,i64 2,i64 p2] fun r41=>J6 (())) (J6 (()))))
theorem F.aa.Refs.pc.calls(p0:OA)(p1 p2:Int):Cf 129 [pV p0,i64 p1,i64 p2] (F.aa.Refs.pc p0 p1 p2):=Tryz.cd F.aa.Refs.pc.T Tryz.func129
def F.aa.bN.qV.T:az:=⟨fun _=>[],fun _=>none,(fun|9=> .held (some 12) (gF [0,1,2,3,4,5,6,7,8,9,10,11] (.go 12 true .nil))|_=> .quiet)⟩
def F.aa.bN.qV(p0:OA)(p1:Int):Tree:=cG 123 [pV p0,i64 p1] [kI,kI,kI,.bool,.bool] fun r1=>nw 172 (zc Zp 172) fun b2=>st (aB b2) [i64 r1.1,i64 r1.2.1,i64 r1.2.2.1,.bool r1.2.2.2.1,.bool r1.2.2.2.2.1]<|dB (fa (aB b2) 4) fun x3=>br (!x3) (ret (i64 2)) (dI (fa (fa (aB b2) 0) 0) fun x4=>br ((x4:Int)==4) (ret (i64 5)) (dB (fa (fa (aB b2) 0) 3) fun x5=>br x5 (ret (i64 4)) (st (fa (fa (aB b2) 0) 3) [.bool true]<|cD<|Gl.held fun S6=>nn p0 fun a7=>eP S6 (fa a7 0) fun x8=>nn x8 fun a9=>eS S6 (fa a9 0) fun x10=>eG S6 [kI,kI,kI,.bool] (fa (aB b2) 0) fun x11=>cI 184 [.agg #[i64 x11.1,i64 x11.2.1,i64 x11.2.2.1,.bool x11.2.2.2.1]] fun r12=>aZ S6<|ix x10.a x10.n p1 1 fun a13=>st a13 [i64 r12]<|ret (i64 0))))
theorem F.aa.bN.qV.calls(p0:OA)(p1:Int):Cf 130 [pV p0,i64 p1] (F.aa.bN.qV p0 p1):=Tryz.cd F.aa.bN.qV.T Tryz.func130
def F.aa.Process.T:az:=⟨(fun|3=>[]|9=>[(8,kI)]|17=>[(10,kI)]|_=>[]),fun _=>none,(fun|15=> .held (some 5) (gF [0,1,2,3,4] (.go 5 true (gF [6,7] .nil)))|_=> .quiet)⟩
def F.aa.Process(p0:OA)(p1:LTs [.slice,.slice,kI,kI,kI,.bool,kI]):Tree:=nw 181 [sV p1.1,sV p1.2.1,i64 p1.2.2.1,i64 p1.2.2.2.1,i64 p1.2.2.2.2.1,.bool p1.2.2.2.2.2.1,i64 p1.2.2.2.2.2.2.1] fun b1=>nw 120 (zc Zp 120) fun b2=>cS 185 [pV p0] fun r3=>dS (fa (aB b1) 0) fun x4=>cN 186 [sV r3,pV p0,sV x4] [] fun r5=>lp [] (fun X6 u7=>dG [.slice,.slice,kI,kI,kI,.bool,kI] (aB b1) fun x8=>cI 187 [sV r3,pV p0,.agg #[sV x8.1,sV x8.2.1,i64 x8.2.2.1,i64 x8.2.2.2.1,i64 x8.2.2.2.2.1,.bool x8.2.2.2.2.2.1,i64 x8.2.2.2.2.2.2.1]] fun r9=>br ((r9:Int)==0) (nw 120 (zc Zp 120) fun b10=>cS 188 [sV r3,pV p0,i64 1,i64 2] fun r11=>st (fa (aB b10) 0) [sV r11]<|lp [kI] (fun X12 u13=>dS (fa (aB b1) 1) fun x14=>br (decide ((u13.1:Int)<(x14.n:Nat))) (dS (fa (aB b1) 1) fun x15=>ix x15.a x15.n u13.1 1 fun a16=>dI a16 fun x17=>cG 123 [pV p0,i64 x17] [kI,kI,kI,.bool,.bool] fun r18=>br r18.2.2.2.2.1 (ix r3.a r3.n x17 1 fun a19=>dB a19 fun x20=>br (!x20) (dS (fa (aB b10) 2) fun x21=>cB 33 [sV x21,i64 x17] fun r22=>br (!r22) (dS (fa (aB b10) 2) fun x23=>nw 3 [i64 x17] fun b24=>ap 43 (sV x23) (.slice (some ⟨b24,0,none⟩) 1 1) fun r25=>st (fa (aB b10) 2) [sV r25]<|X12 (IntKind.wrap .i64 (u13.1+1),())) (X12 (IntKind.wrap .i64 (u13.1+1),()))) (X12 (IntKind.wrap .i64 (u13.1+1),()))) (X12 (IntKind.wrap .i64 (u13.1+1),()))) (dS (fa (aB b10) 2) fun x15=>cN 186 [sV r3,pV p0,sV x15] [] fun r16=>cD<|Gl.held fun S17=>eS S17 (fa (aB b10) 0) fun x18=>cS 188 [sV r3,pV p0,i64 3,i64 3] fun r19=>aZ S17<|ap 43 (sV x18) (sV r19) fun r20=>st (fa (aB b10) 0) [sV r20]<|lp [kI] (fun X21 u22=>dS (fa (aB b10) 0) fun x23=>br (decide ((u22.1:Int)<(x23.n:Nat))) (dS (fa (aB b10) 0) fun x24=>ix x24.a x24.n u22.1 1 fun a25=>dI a25 fun x26=>ix r3.a r3.n x26 1 fun a27=>dB a27 fun x28=>br x28 (cG 47 [pV p0,i64 x26,i64 1] [kI,kI] fun r29=>br (decide ((r29.1:Int)>0)) (dS (fa (aB b10) 1) fun x30=>nw 3 [i64 x26] fun b31=>ap 43 (sV x30) (.slice (some ⟨b31,0,none⟩) 1 1) fun r32=>st (fa (aB b10) 1) [sV r32]<|X21 (IntKind.wrap .i64 (u22.1+1),())) (X21 (IntKind.wrap .i64 (u22.1+1),()))) (X21 (IntKind.wrap .i64 (u22.1+1),()))) (cS 189 [sV r3] fun r24=>st (fa (aB b10) 3) [sV r24]<|dG [.slice,.slice,.slice,.slice] (aB b10) fun x25=>st (aB b2) [sV x25.1,sV x25.2.1,sV x25.2.2.1,sV x25.2.2.2.1]<|dG [.slice,.slice,.slice,.slice] (aB b2) fun x26=>ret (.agg #[sV x26.1,sV x26.2.1,sV x26.2.2.1,sV x26.2.2.2.1]))) (0,()))) (0,())) (nw 3 [i64 r9] fun b10=>cN 186 [sV r3,pV p0,.slice (some ⟨b10,0,none⟩) 1 1] [] fun r11=>X6 (()))) (())
theorem F.aa.Process.calls(p0:OA)(p1:LTs [.slice,.slice,kI,kI,kI,.bool,kI]):Cf 131 [pV p0,.agg #[sV p1.1,sV p1.2.1,i64 p1.2.2.1,i64 p1.2.2.2.1,i64 p1.2.2.2.2.1,.bool p1.2.2.2.2.2.1,i64 p1.2.2.2.2.2.2.1]] (F.aa.Process p0 p1):=Tryz.cd F.aa.Process.T Tryz.func131
def F.aa.cj.ve.T:az:=⟨(fun|1=>[(4,kI)]|_=>[]),fun _=>none,(fun|3=> .tail 8 |4=> .held (some 9) (gF [0,1,2,3,4,5,6,7,8] (.go 9 true (gF [10,11,12] .nil)))|5=> .held (some 12) (gF [0,2,3,4,5,7,8,9,10] (.two (gF [1] (.two (gF [6,11] (.go 12 true (gF [13,14,15] .nil))) (gF [11,6] (.go 12 true (gF [13,14,15] .nil))))) (gF [11,1,6] (.go 12 true (gF [13,14,15] .nil)))))|_=> .quiet)⟩
def F.aa.cj.ve(p0:OA)(p1:av):Tree:=lp [kI] (fun X1 u2=>br (decide ((u2.1:Int)<(p1.n:Nat))) (cD<|nn p0 fun a3=>dS (fa a3 1) fun x4=>ix p1.a p1.n u2.1 1 fun a5=>dI a5 fun x6=>cB 33 [sV x4,i64 x6] fun r7=>br r7 (cD<|Gl.held fun S8=>nn p0 fun a9=>eS S8 (fa a9 1) fun x10=>ix p1.a p1.n u2.1 1 fun a11=>eI S8 a11 fun x12=>cS 191 [sV x10,i64 x12] fun r13=>nn p0 fun a14=>st (fa a14 1) [sV r13]<|cD<|Gl.held fun S15=>nn p0 fun a16=>eS S15 (fa a16 2) fun x17=>ix p1.a p1.n u2.1 1 fun a18=>eI S15 a18 fun x19=>both (nw 3 [] fun b20=>aZ S15<|both (ap 43 (.slice (some ⟨b20,0,none⟩) 0 0) (sV x17) fun r21=>aZ S15<|nw 3 [i64 x19] fun b22=>aZ S15<|ap 43 (sV r21) (.slice (some ⟨b22,0,none⟩) 1 1) fun r23=>nn p0 fun a24=>st (fa a24 2) [sV r23]<|X1 (IntKind.wrap .i64 (u2.1+1),())) (nw 3 [i64 x19] fun b25=>aZ S15<|ap 43 (.slice (some ⟨b20,0,none⟩) 0 0) (sV x17) fun r26=>aZ S15<|ap 43 (sV r26) (.slice (some ⟨b25,0,none⟩) 1 1) fun r27=>nn p0 fun a28=>st (fa a28 2) [sV r27]<|X1 (IntKind.wrap .i64 (u2.1+1),()))) (nw 3 [i64 x19] fun b29=>aZ S15<|nw 3 [] fun b30=>aZ S15<|ap 43 (.slice (some ⟨b30,0,none⟩) 0 0) (sV x17) fun r31=>aZ S15<|ap 43 (sV r31) (.slice (some ⟨b29,0,none⟩) 1 1) fun r32=>nn p0 fun a33=>st (fa a33 2) [sV r32]<|X1 (IntKind.wrap .i64 (u2.1+1),()))) (X1 (IntKind.wrap .i64 (u2.1+1),()))) (ret (.tuple #[]))) (0,())
theorem F.aa.cj.ve.calls(p0:OA)(p1:av):Cf 133 [pV p0,sV p1] (F.aa.cj.ve p0 p1):=Tryz.cd F.aa.cj.ve.T Tryz.func133
def F.aa.nH.T:az:=⟨(fun|3=>[(6,kI)]|_=>[]),fun _=>none,(fun|5=> .tail 8 |_=> .quiet)⟩
def F.aa.nH(p0:OA)(p1:av):Tree:=cS 192 [pV p0,sV p1] fun r1=>lp [kI] (fun X2 u3=>br (decide ((u3.1:Int)<(r1.n:Nat))) (cD<|nn p0 fun a4=>dP (fa a4 0) fun x5=>ix r1.a r1.n u3.1 1 fun a6=>dI a6 fun x7=>cI 193 [pV x5,i64 x7] fun r8=>X2 (IntKind.wrap .i64 (u3.1+1),())) (ret (i64 (r1.n:Nat)))) (0,())
theorem F.aa.nH.calls(p0:OA)(p1:av):Cf 134 [pV p0,sV p1] (F.aa.nH p0 p1):=Tryz.cd F.aa.nH.T Tryz.func134
def F.aa.Refs.nG.T:az:=⟨fun _=>[],fun _=>none,(fun|8=> .tail 7 |9=> .tail 8 |10=> .tail 7 |11=> .tail 10 |_=> .quiet)⟩
def F.aa.Refs.nG(p0:OA)(p1 p2 p3 p4:Int):Tree:=nw 100 (zc Zp 100) fun b1=>cI 51 [pV p0,i64 p1,i64 p2,i64 p3] fun r2=>br ((r2:Int) != 0) (st (aB b1) [i64 0,i64 r2]<|dG [kI,kI] (aB b1) fun x3=>ret (.agg #[i64 x3.1,i64 x3.2.1])) (nn p0 fun a3=>dP (fa a3 0) fun x4=>cG 182 [pV x4,.agg #[i64 4,i64 p1,i64 5,.bool false]] [kI,kI] fun r5=>nw 100 (zc Zp 100) fun b6=>st (aB b6) [i64 r5.1,i64 r5.2.1]<|dI (fa (aB b6) 1) fun x7=>br ((x7:Int) != 0) (dG [kI,kI] (aB b6) fun x8=>st (aB b1) [i64 x8.1,i64 x8.2.1]<|dG [kI,kI] (aB b1) fun x9=>ret (.agg #[i64 x9.1,i64 x9.2.1])) (nn p0 fun a8=>dI (fa a8 2) fun x9=>nn p0 fun a10=>st (fa a10 2) [i64 (IntKind.wrap .i64 (x9+1))]<|cD<|nn p0 fun a11=>dP (fa a11 0) fun x12=>dI (fa (aB b6) 0) fun x13=>cI 49 [pV x12,i64 x13,i64 0,i64 p2] fun r14=>cD<|nn p0 fun a15=>dP (fa a15 0) fun x16=>dI (fa (aB b6) 0) fun x17=>cI 49 [pV x16,i64 x17,i64 1,i64 (IntKind.wrap .i64 (p3+1))] fun r18=>cD<|nn p0 fun a19=>dP (fa a19 0) fun x20=>dI (fa (aB b6) 0) fun x21=>cI 49 [pV x20,i64 x21,i64 3,i64 p4] fun r22=>cD<|nn p0 fun a23=>dP (fa a23 0) fun x24=>dI (fa (aB b6) 0) fun x25=>nn p0 fun a26=>dI (fa a26 2) fun x27=>cI 49 [pV x24,i64 x25,i64 4,i64 x27] fun r28=>dG [kI,kI] (aB b6) fun x29=>st (aB b1) [i64 x29.1,i64 x29.2.1]<|dG [kI,kI] (aB b1) fun x30=>ret (.agg #[i64 x30.1,i64 x30.2.1])))
theorem F.aa.Refs.nG.calls(p0:OA)(p1 p2 p3 p4:Int):Cf 181 [pV p0,i64 p1,i64 p2,i64 p3,i64 p4] (F.aa.Refs.nG p0 p1 p2 p3 p4):=Tryz.cd F.aa.Refs.nG.T Tryz.func181
def F.aa.bN.Make.T:az:=⟨fun _=>[],fun _=>none,(fun|4=> .held (some 7) (gF [0,1,2,3,4,5,6] (.two (.go 7 true (gF [8,9] .nil)) (gF [8] (.go 7 true (gF [9] .nil)))))|6=> .held (some 12) (gF [0,1,2,3,4,5,6,7,8,9,10,11] (.go 12 true .nil))|_=> .quiet)⟩
def F.aa.bN.Make(p0:OA)(p1:LTs [kI,kI,kI,.bool]):Tree:=nw 72 [i64 p1.1,i64 p1.2.1,i64 p1.2.2.1,.bool p1.2.2.2.1] fun b1=>nw 100 (zc Zp 100) fun b2=>dG [kI,kI,kI,.bool] (aB b1) fun x3=>cI 237 [pV p0,.agg #[i64 x3.1,i64 x3.2.1,i64 x3.2.2.1,.bool x3.2.2.2.1]] fun r4=>br ((r4:Int) != 0) (st (aB b2) [i64 0,i64 r4]<|dG [kI,kI] (aB b2) fun x5=>ret (.agg #[i64 x5.1,i64 x5.2.1])) (cD<|Gl.held fun S5=>nn p0 fun a6=>eP S5 (fa a6 0) fun x7=>eI S5 (fa (aB b1) 2) fun x8=>both (cG 238 [pV x7,i64 (IntKind.wrap .i64 (x8+1))] [kI,kI] fun r9=>nw 100 (zc Zp 100) fun b10=>st (aB b10) [i64 r9.1,i64 r9.2.1]<|dI (fa (aB b10) 1) fun x11=>br ((x11:Int)==0) (cD<|Gl.held fun S12=>nn p0 fun a13=>eP S12 (fa a13 0) fun x14=>nn x14 fun a15=>eS S12 (fa a15 0) fun x16=>eI S12 (fa (aB b10) 0) fun x17=>eG S12 [kI,kI,kI,.bool] (aB b1) fun x18=>cI 184 [.agg #[i64 x18.1,i64 x18.2.1,i64 x18.2.2.1,.bool x18.2.2.2.1]] fun r19=>aZ S12<|ix x16.a x16.n x17 1 fun a20=>st a20 [i64 r19]<|dG [kI,kI] (aB b10) fun x21=>st (aB b2) [i64 x21.1,i64 x21.2.1]<|dG [kI,kI] (aB b2) fun x22=>ret (.agg #[i64 x22.1,i64 x22.2.1])) (dG [kI,kI] (aB b10) fun x12=>st (aB b2) [i64 x12.1,i64 x12.2.1]<|dG [kI,kI] (aB b2) fun x13=>ret (.agg #[i64 x13.1,i64 x13.2.1]))) (nw 100 (zc Zp 100) fun b14=>aZ S5<|cG 238 [pV x7,i64 (IntKind.wrap .i64 (x8+1))] [kI,kI] fun r15=>st (aB b14) [i64 r15.1,i64 r15.2.1]<|dI (fa (aB b14) 1) fun x16=>br ((x16:Int)==0) (cD<|Gl.held fun S17=>nn p0 fun a18=>eP S17 (fa a18 0) fun x19=>nn x19 fun a20=>eS S17 (fa a20 0) fun x21=>eI S17 (fa (aB b14) 0) fun x22=>eG S17 [kI,kI,kI,.bool] (aB b1) fun x23=>cI 184 [.agg #[i64 x23.1,i64 x23.2.1,i64 x23.2.2.1,.bool x23.2.2.2.1]] fun r24=>aZ S17<|ix x21.a x21.n x22 1 fun a25=>st a25 [i64 r24]<|dG [kI,kI] (aB b14) fun x26=>st (aB b2) [i64 x26.1,i64 x26.2.1]<|dG [kI,kI] (aB b2) fun x27=>ret (.agg #[i64 x27.1,i64 x27.2.1])) (dG [kI,kI] (aB b14) fun x17=>st (aB b2) [i64 x17.1,i64 x17.2.1]<|dG [kI,kI] (aB b2) fun x18=>ret (.agg #[i64 x18.1,i64 x18.2.1]))))
theorem F.aa.bN.Make.calls(p0:OA)(p1:LTs [kI,kI,kI,.bool]):Cf 182 [pV p0,.agg #[i64 p1.1,i64 p1.2.1,i64 p1.2.2.1,.bool p1.2.2.2.1]] (F.aa.bN.Make p0 p1):=Tryz.cd F.aa.bN.Make.T Tryz.func182
def F.aa.tQ(p0:OA):Tree:=nn p0 fun a1=>dP (fa a1 0) fun x2=>nn x2 fun a3=>dS (fa a3 0) fun x4=>cM Zp (Instr.makeSlice 246 (i64 (x4.n:Nat)) (i64 (x4.n:Nat))) (.one (.l .slice)) fun(r5:av)=>ret (sV r5)
theorem F.aa.tQ.calls(p0:OA):Cf 185 [pV p0] (F.aa.tQ p0):=Tryz.cd az.z Tryz.func185
def F.aa.Marks.Mark.T:az:=⟨(fun|2=>[(6,.slice),(7,kI)]|9=>[(6,.slice),(10,kI)]|_=>[]),fun _=>none,fun _=> .quiet⟩
def F.aa.Marks.Mark(p0:av)(p1:OA)(p2:av):Tree:=nw 3 [] fun b1=>ap 43 (.slice (some ⟨b1,0,none⟩) 0 0) (sV p2) fun r2=>lp [.slice,kI] (fun X3 u4=>br (decide ((u4.2.1:Int)<(u4.1.n:Nat))) (ix u4.1.a u4.1.n u4.2.1 1 fun a5=>dI a5 fun x6=>cG 123 [pV p1,i64 x6] [kI,kI,kI,.bool,.bool] fun r7=>br (!r7.2.2.2.2.1) (X3 (u4.1,IntKind.wrap .i64 (u4.2.1+1),())) (ix p0.a p0.n x6 1 fun a8=>dB a8 fun x9=>br x9 (X3 (u4.1,IntKind.wrap .i64 (u4.2.1+1),())) (ix p0.a p0.n x6 1 fun a10=>st a10 [.bool true]<|cS 124 [pV p1,i64 x6] fun r11=>lp [.slice,kI] (fun X12 u13=>br (decide ((u13.2.1:Int)<(r11.n:Nat))) (ix r11.a r11.n u13.2.1 1 fun a14=>dI a14 fun x15=>cG 47 [pV p1,i64 x6,i64 x15] [kI,kI] fun r16=>nw 3 [i64 r16.1] fun b17=>ap 43 (sV u13.1) (.slice (some ⟨b17,0,none⟩) 1 1) fun r18=>X12 (r18,IntKind.wrap .i64 (u13.2.1+1),())) (X3 (u13.1,IntKind.wrap .i64 (u4.2.1+1),()))) (u4.1,0,())))) (ret (.tuple #[]))) (r2,0,())
theorem F.aa.Marks.Mark.calls(p0:av)(p1:OA)(p2:av):Cf 186 [sV p0,pV p1,sV p2] (F.aa.Marks.Mark p0 p1 p2):=Tryz.cd F.aa.Marks.Mark.T Tryz.func186
def F.aa.Marks.gu.T:az:=⟨(fun|3=>[(8,kI)]|_=>[]),fun _=>none,(fun|8=> .held (some 22) (gF [0,1,2] (.cut (gF [3,4,5,6,7,8,9,10,11,12,13,14,15,16,17,18,19,20,21] (.go 22 true (gF [23] .nil)))))|_=> .quiet)⟩
def F.aa.Marks.gu(p0:av)(p1:OA)(p2:LTs [.slice,.slice,kI,kI,kI,.bool,kI]):Tree:=nw 181 [sV p2.1,sV p2.2.1,i64 p2.2.2.1,i64 p2.2.2.2.1,i64 p2.2.2.2.2.1,.bool p2.2.2.2.2.2.1,i64 p2.2.2.2.2.2.2.1] fun b1=>cS 75 [pV p1] fun r2=>lp [kI] (fun X3 u4=>br (decide ((u4.1:Int)<(r2.n:Nat))) (ix r2.a r2.n u4.1 6 fun a5=>dG [kI,kI,kI,kI,.bool,.slice] a5 fun x6=>nw 74 (zc Zp 74) fun b7=>st (aB b7) [i64 x6.1,i64 x6.2.1,i64 x6.2.2.1,i64 x6.2.2.2.1,.bool x6.2.2.2.2.1,sV x6.2.2.2.2.2.1]<|dI (fa (aB b7) 0) fun x8=>ix p0.a p0.n x8 1 fun a9=>dB a9 fun x10=>br (!x10) (X3 (IntKind.wrap .i64 (u4.1+1),())) (dI (fa (fa (aB b7) 1) 0) fun x11=>br ((x11:Int) != 4) (X3 (IntKind.wrap .i64 (u4.1+1),())) (dI (fa (fa (aB b7) 1) 1) fun x12=>br ((x12:Int) != 1) (X3 (IntKind.wrap .i64 (u4.1+1),())) (dB (fa (aB b1) 5) fun x13=>br x13 (X3 (IntKind.wrap .i64 (u4.1+1),())) (dS (fa (aB b7) 5) fun x14=>ix x14.a x14.n 0 1 fun a15=>dI a15 fun x16=>cD<|Gl.held fun S17=>cG 123 [pV p1,i64 x16] [kI,kI,kI,.bool,.bool] fun r18=>aZ S17<|narrow S17 fun S19=>br r18.2.2.2.2.1 (ix p0.a p0.n x16 1 fun a20=>eB S19 a20 fun x21=>br (!x21) (eI S19 (fa (aB b1) 2) fun x22=>eS S19 (fa (aB b7) 5) fun x23=>ix x23.a x23.n 3 1 fun a24=>eI S19 a24 fun x25=>eI S19 (fa (aB b1) 3) fun x26=>eI S19 (fa (aB b1) 4) fun x27=>cB 239 [i64 x22,i64 x25,i64 x26,i64 x27] fun r28=>br r28 (ret (i64 x16)) (X3 (IntKind.wrap .i64 (u4.1+1),()))) (X3 (IntKind.wrap .i64 (u4.1+1),()))) (X3 (IntKind.wrap .i64 (u4.1+1),()))))))) (ret (i64 0))) (0,())
theorem F.aa.Marks.gu.calls(p0:av)(p1:OA)(p2:LTs [.slice,.slice,kI,kI,kI,.bool,kI]):Cf 187 [sV p0,pV p1,.agg #[sV p2.1,sV p2.2.1,i64 p2.2.2.1,i64 p2.2.2.2.1,i64 p2.2.2.2.2.1,.bool p2.2.2.2.2.2.1,i64 p2.2.2.2.2.2.2.1]] (F.aa.Marks.gu p0 p1 p2):=Tryz.cd F.aa.Marks.gu.T Tryz.func187
def F.aa.Marks.mF.T:az:=⟨(fun|4=>[(9,.slice),(11,kI)]|11=>[(14,kI)]|_=>[]),(fun|13=>some [(14,kI)]|_=>none),(fun|11=> .held none (gF [0,1,2,3,4,5,6,7,8,9,12,13,14,15,10,11,16,17] .nil)|13=> .held (some 7) (gF [1,2,3,5,6,9,10,11] (.two (gF [0] (.two (gF [4] (.go 7 true (gF [8,12,13] .nil))) (.go 7 true (gF [4,8,12,13] .nil)))) (.go 7 true (gF [0,4,8,12,13] .nil))))|_=> .quiet)⟩
def F.aa.Marks.mF(p0:av)(p1:OA)(p2 p3:Int):Tree:=cS 75 [pV p1] fun r1=>lp [.slice,kI] (fun X2 u3=>br (decide ((u3.2.1:Int)<(r1.n:Nat))) (ix r1.a r1.n u3.2.1 6 fun a4=>dG [kI,kI,kI,kI,.bool,.slice] a4 fun x5=>nw 74 (zc Zp 74) fun b6=>st (aB b6) [i64 x5.1,i64 x5.2.1,i64 x5.2.2.1,i64 x5.2.2.2.1,.bool x5.2.2.2.2.1,sV x5.2.2.2.2.2.1]<|dI (fa (fa (aB b6) 1) 0) fun x7=>br ((x7:Int) != 4) (X2 (u3.1,IntKind.wrap .i64 (u3.2.1+1),())) (dI (fa (fa (aB b6) 1) 1) fun x8=>br (decide ((x8:Int)<p2)) (X2 (u3.1,IntKind.wrap .i64 (u3.2.1+1),())) (dI (fa (fa (aB b6) 1) 1) fun x9=>br (decide ((x9:Int)>p3)) (X2 (u3.1,IntKind.wrap .i64 (u3.2.1+1),())) (dS (fa (aB b6) 5) fun x10=>ix x10.a x10.n 0 1 fun a11=>dI a11 fun x12=>cG 123 [pV p1,i64 x12] [kI,kI,kI,.bool,.bool] fun r13=>br (!r13.2.2.2.2.1) (X2 (u3.1,IntKind.wrap .i64 (u3.2.1+1),())) (ix p0.a p0.n x12 1 fun a14=>dB a14 fun x15=>br x15 (X2 (u3.1,IntKind.wrap .i64 (u3.2.1+1),())) (jn (fun(j17:LTs [kI])=>cD<|Gl.held fun S18=>sG u3.1.a u3.1.c 0 j17.1 1 fun s19=>eI S18 (fa (aB b6) 0) fun x20=>sG u3.1.a u3.1.c j17.1 (u3.1.n:Nat) 1 fun s21=>both (nw 3 [] fun b22=>aZ S18<|both (ap 43 (.slice (some ⟨b22,0,none⟩) 0 0) (sV s19) fun r23=>aZ S18<|nw 3 [i64 x20] fun b24=>ap 43 (sV r23) (.slice (some ⟨b24,0,none⟩) 1 1) fun r25=>ap 43 (sV r25) (sV s21) fun r26=>X2 (r26,IntKind.wrap .i64 (u3.2.1+1),())) (nw 3 [i64 x20] fun b27=>ap 43 (.slice (some ⟨b22,0,none⟩) 0 0) (sV s19) fun r28=>ap 43 (sV r28) (.slice (some ⟨b27,0,none⟩) 1 1) fun r29=>ap 43 (sV r29) (sV s21) fun r30=>X2 (r30,IntKind.wrap .i64 (u3.2.1+1),()))) (nw 3 [i64 x20] fun b31=>nw 3 [] fun b32=>ap 43 (.slice (some ⟨b32,0,none⟩) 0 0) (sV s19) fun r33=>ap 43 (sV r33) (.slice (some ⟨b31,0,none⟩) 1 1) fun r34=>ap 43 (sV r34) (sV s21) fun r35=>X2 (r35,IntKind.wrap .i64 (u3.2.1+1),()))) fun J16=>lp [kI] (fun X36 u37=>cD<|Gl.held fun S38=>br (decide ((u37.1:Int)<(u3.1.n:Nat))) (ix u3.1.a u3.1.n u37.1 1 fun a39=>eI S38 a39 fun x40=>eS S38 (fa (aB b6) 5) fun x41=>ix x41.a x41.n 4 1 fun a42=>eI S38 a42 fun x43=>cG 47 [pV p1,i64 x40,i64 4] [kI,kI] fun r44=>aZ S38<|br (decide ((r44.1:Int)≤x43)) (X36 (IntKind.wrap .i64 (u37.1+1),())) (J16 (u37.1,()))) (J16 (u37.1,()))) (0,()))))))) (ret (sV u3.1))) (⟨none,0,0⟩,0,())
theorem F.aa.Marks.mF.calls(p0:av)(p1:OA)(p2 p3:Int):Cf 188 [sV p0,pV p1,i64 p2,i64 p3] (F.aa.Marks.mF p0 p1 p2 p3):=Tryz.cd F.aa.Marks.mF.T Tryz.func188
def F.aa.Marks.sW.T:az:=⟨(fun|3=>[(3,.slice),(4,kI)]|_=>[]),fun _=>none,fun _=> .quiet⟩
def F.aa.Marks.sW(p0:av):Tree:=lp [.slice,kI] (fun X1 u2=>br (decide ((u2.2.1:Int)<(p0.n:Nat))) (ix p0.a p0.n u2.2.1 1 fun a3=>dB a3 fun x4=>br x4 (nw 3 [i64 u2.2.1] fun b5=>ap 43 (sV u2.1) (.slice (some ⟨b5,0,none⟩) 1 1) fun r6=>X1 (r6,IntKind.wrap .i64 (u2.2.1+1),())) (X1 (u2.1,IntKind.wrap .i64 (u2.2.1+1),()))) (ret (sV u2.1))) (⟨none,0,0⟩,0,())
theorem F.aa.Marks.sW.calls(p0:av):Cf 189 [sV p0] (F.aa.Marks.sW p0):=Tryz.cd F.aa.Marks.sW.T Tryz.func189
def F.aa.q9.T:az:=⟨(fun|3=>[(3,.slice),(4,kI)]|6=>[(3,.slice),(5,kI)]|_=>[]),fun _=>none,fun _=> .quiet⟩
def F.aa.q9(p0:av):Tree:=lp [.slice,kI] (fun X1 u2=>br (decide ((u2.2.1:Int)<(p0.n:Nat))) (lp [.slice,kI] (fun X3 u4=>ix p0.a p0.n u2.2.1 1 fun a5=>dS a5 fun x6=>br (decide ((u4.2.1:Int)<(x6.n:Nat))) (ix p0.a p0.n u2.2.1 1 fun a7=>dS a7 fun x8=>ix x8.a x8.n u4.2.1 1 fun a9=>dI a9 fun x10=>br (decide ((x10:Int)>0)) (ix p0.a p0.n u2.2.1 1 fun a11=>dS a11 fun x12=>ix x12.a x12.n u4.2.1 1 fun a13=>dI a13 fun x14=>cS 240 [sV u4.1,i64 x14] fun r15=>X3 (r15,IntKind.wrap .i64 (u4.2.1+1),())) (X3 (u4.1,IntKind.wrap .i64 (u4.2.1+1),()))) (X1 (u4.1,IntKind.wrap .i64 (u2.2.1+1),()))) (u2.1,0,())) (ret (sV u2.1))) (⟨none,0,0⟩,0,())
theorem F.aa.q9.calls(p0:av):Cf 190 [sV p0] (F.aa.q9 p0):=Tryz.cd F.aa.q9.T Tryz.func190
def F.aa.qK.T:az:=⟨(fun|3=>[(5,.slice),(6,kI)]|_=>[]),fun _=>none,fun _=> .quiet⟩
def F.aa.qK(p0:av)(p1:Int):Tree:=lp [.slice,kI] (fun X1 u2=>br (decide ((u2.2.1:Int)<(p0.n:Nat))) (ix p0.a p0.n u2.2.1 1 fun a3=>dI a3 fun x4=>br ((x4:Int) != p1) (ix p0.a p0.n u2.2.1 1 fun a5=>dI a5 fun x6=>nw 3 [i64 x6] fun b7=>ap 43 (sV u2.1) (.slice (some ⟨b7,0,none⟩) 1 1) fun r8=>X1 (r8,IntKind.wrap .i64 (u2.2.1+1),())) (X1 (u2.1,IntKind.wrap .i64 (u2.2.1+1),()))) (ret (sV u2.1))) (⟨none,0,0⟩,0,())
theorem F.aa.qK.calls(p0:av)(p1:Int):Cf 191 [sV p0,i64 p1] (F.aa.qK p0 p1):=Tryz.cd F.aa.qK.T Tryz.func191
def F.aa.sJ.T:az:=⟨(fun|4=>[(5,.slice),(7,kI)]|_=>[]),fun _=>none,fun _=> .quiet⟩
def F.aa.sJ(p0:OA)(p1:av):Tree:=nn p0 fun a1=>dP (fa a1 0) fun x2=>cS 64 [pV x2] fun r3=>lp [.slice,kI] (fun X4 u5=>br (decide ((u5.2.1:Int)<(r3.n:Nat))) (ix r3.a r3.n u5.2.1 1 fun a6=>dI a6 fun x7=>cB 33 [sV p1,i64 x7] fun r8=>br (!r8) (ix r3.a r3.n u5.2.1 1 fun a9=>dI a9 fun x10=>nw 3 [i64 x10] fun b11=>ap 43 (sV u5.1) (.slice (some ⟨b11,0,none⟩) 1 1) fun r12=>X4 (r12,IntKind.wrap .i64 (u5.2.1+1),())) (X4 (u5.1,IntKind.wrap .i64 (u5.2.1+1),()))) (ret (sV u5.1))) (⟨none,0,0⟩,0,())
theorem F.aa.sJ.calls(p0:OA)(p1:av):Cf 192 [pV p0,sV p1] (F.aa.sJ p0 p1):=Tryz.cd F.aa.sJ.T Tryz.func192
def F.aa.bN.Hp.T:az:=⟨fun _=>[],fun _=>none,(fun|4=> .quiet|6=> .quiet|_=> .quiet)⟩
def F.aa.bN.Hp(p0:OA)(p1:LTs [kI,kI,kI,.bool]):Tree:=nw 72 [i64 p1.1,i64 p1.2.1,i64 p1.2.2.1,.bool p1.2.2.2.1] fun b1=>dG [kI,kI,kI,.bool] (aB b1) fun x2=>cB 144 [.agg #[i64 x2.1,i64 x2.2.1,i64 x2.2.2.1,.bool x2.2.2.2.1]] fun r3=>br (!r3) (ret (i64 1)) (dB (fa (aB b1) 3) fun x4=>br x4 (ret (i64 1)) (dI (fa (aB b1) 0) fun x5=>br ((x5:Int)==1) (cD<|dI (fa (aB b1) 1) fun x6=>nn p0 fun a7=>dS (fa a7 1) fun x8=>br (decide ((x6:Int)>(x8.n:Nat))) (ret (i64 2)) (cD<|nn p0 fun a9=>dS (fa a9 1) fun x10=>dI (fa (aB b1) 1) fun x11=>ix x10.a x10.n (IntKind.wrap .i64 (x11-1)) 2 fun a12=>dI (fa a12 0) fun x13=>dI (fa (aB b1) 2) fun x14=>br ((x13:Int) != x14) (ret (i64 1)) (ret (i64 0)))) (ret (i64 0))))
theorem F.aa.bN.Hp.calls(p0:OA)(p1:LTs [kI,kI,kI,.bool]):Cf 237 [pV p0,.agg #[i64 p1.1,i64 p1.2.1,i64 p1.2.2.1,.bool p1.2.2.2.1]] (F.aa.bN.Hp p0 p1):=Tryz.cd F.aa.bN.Hp.T Tryz.func237
def F.aa.Bn(p0 p1 p2 p3:Int):Tree:=cI 279 [i64 p0,i64 p1] fun r1=>cI 280 [i64 p2,i64 p3] fun r2=>ret (.bool (decide ((r1:Int)≤r2)))
theorem F.aa.Bn.calls(p0 p1 p2 p3:Int):Cf 239 [i64 p0,i64 p1,i64 p2,i64 p3] (F.aa.Bn p0 p1 p2 p3):=Tryz.cd az.z Tryz.func239
def F.aa.with.T:az:=⟨(fun|2=>[(5,kI)]|_=>[]),(fun|4=>some [(5,kI)]|6=>some []|_=>none),(fun|6=> .held (some 0) (gF [1,2,3,5,8,9,10] (.two (.go 0 true (.two (gF [4,6,7,11,12] .nil) (gF [6,4,7,11,12] .nil))) (gF [6] (.go 0 true (gF [4,7,11,12] .nil)))))|_=> .quiet)⟩
def F.aa.with(p0:av)(p1:Int):Tree:=jn (fun(j2:LTs [kI])=>jn (fun(j4:LTs [])=>cD<|Gl.held fun S5=>sG p0.a p0.c 0 j2.1 1 fun s6=>sG p0.a p0.c j2.1 (p0.n:Nat) 1 fun s7=>both (nw 3 [] fun b8=>both (ap 43 (.slice (some ⟨b8,0,none⟩) 0 0) (sV s6) fun r9=>nw 3 [i64 p1] fun b10=>ap 43 (sV r9) (.slice (some ⟨b10,0,none⟩) 1 1) fun r11=>ap 43 (sV r11) (sV s7) fun r12=>ret (sV r12)) (nw 3 [i64 p1] fun b13=>ap 43 (.slice (some ⟨b8,0,none⟩) 0 0) (sV s6) fun r14=>ap 43 (sV r14) (.slice (some ⟨b13,0,none⟩) 1 1) fun r15=>ap 43 (sV r15) (sV s7) fun r16=>ret (sV r16))) (nw 3 [i64 p1] fun b17=>aZ S5<|nw 3 [] fun b18=>ap 43 (.slice (some ⟨b18,0,none⟩) 0 0) (sV s6) fun r19=>ap 43 (sV r19) (.slice (some ⟨b17,0,none⟩) 1 1) fun r20=>ap 43 (sV r20) (sV s7) fun r21=>ret (sV r21))) fun J3=>br (decide ((j2.1:Int)<(p0.n:Nat))) (ix p0.a p0.n j2.1 1 fun a22=>dI a22 fun x23=>br ((x23:Int)==p1) (ret (sV p0)) (J3 (()))) (J3 (()))) fun J1=>lp [kI] (fun X22 u23=>br (decide ((u23.1:Int)<(p0.n:Nat))) (ix p0.a p0.n u23.1 1 fun a24=>dI a24 fun x25=>br (decide ((x25:Int)<p1)) (X22 (IntKind.wrap .i64 (u23.1+1),())) (J1 (u23.1,()))) (J1 (u23.1,()))) (0,())
theorem F.aa.with.calls(p0:av)(p1:Int):Cf 240 [sV p0,i64 p1] (F.aa.with p0 p1):=Tryz.cd F.aa.with.T Tryz.func240
def F.aa.Idle(p0 p1:Int):Tree:=ret (i64 (if(IntKind.wrap .i64 ((if(p0:Int)>0 then(p0:Int)else 0)-(if(p1:Int)>0 then(p1:Int)else 0)):Int)>0 then(IntKind.wrap .i64 ((if(p0:Int)>0 then(p0:Int)else 0)-(if(p1:Int)>0 then(p1:Int)else 0)):Int)else 0))
theorem F.aa.Idle.calls(p0 p1:Int):Cf 279 [i64 p0,i64 p1] (F.aa.Idle p0 p1):=Tryz.cd az.z Tryz.func279
def F.aa.sd(p0 p1:Int):Tree:=br (((if(p1:Int)>0 then(p1:Int)else 0):Int) != 0) (dE (((if(p1:Int)>0 then(p1:Int)else 0):Int)≠0)<|br (decide (((if(p0:Int)>0 then(p0:Int)else 0):Int)>(IntKind.wrap .i64 (Int.tdiv 9223372036854775807 (if(p1:Int)>0 then(p1:Int)else 0))))) (ret (i64 9223372036854775807)) (ret (i64 (IntKind.wrap .i64 ((if(p0:Int)>0 then(p0:Int)else 0)*(if(p1:Int)>0 then(p1:Int)else 0)))))) (ret (i64 (IntKind.wrap .i64 ((if(p0:Int)>0 then(p0:Int)else 0)*(if(p1:Int)>0 then(p1:Int)else 0)))))
theorem F.aa.sd.calls(p0 p1:Int):Cf 280 [i64 p0,i64 p1] (F.aa.sd p0 p1):=Tryz.cd az.z Tryz.func280
variable{ρ0 ρ:FR}{L L':List aD}{Post:Value→List aD→Prop}{T:Tree}
theorem uQ{l l':List Int}(h1:l.Pairwise (·<·))(h2:l'.Pairwise (·<·))(h:∀a,a∈l↔a∈l'):l=l':=by
 have hp:l.Perm l':=by rw[List.perm_ext_iff_of_nodup (h1.imp fun h=>by omega) (h2.imp fun h=>by omega)];exact h
 have s1:=Sp.te (h1.imp fun h=>by omega);have s2:=Sp.te (h2.imp fun h=>by omega);rw[←s1,←s2,Sp.oY hp]
theorem vE{S:aJ}(hw:Wf S){a w:Nat}(hf:Sp.find S a=some (a,w)):
  (Sp.dH S a).1=0∧(Sp.dH S a).2.ws=S.ws∧(Sp.dH S a).2.pg.length=S.pg.length∧∀m:Nat,Sp.find (Sp.dH S a).2 m=if a≤m∧m<a+w then none else Sp.find S m:=by
 have hlen:=hw.len;have hw':=Sp.BX hw a;obtain⟨hn,hcase⟩:=Sp.l5 hw hf rfl;have e0:Sp.dH S a=match S.pg[a/64]? with
    |some (.small c l)=>(0,⟨S.ws,S.pg.set (a/64) (if(l.set (a%64/Sp.sz c) false).count true=0 then .free else .small c (l.set (a%64/Sp.sz c) false))⟩)
    |some (.head k)=>(0,⟨S.ws,Sp.gX S.pg (a/64) k⟩)
    |_=>(0,S):=by unfold Sp.dH;grind
 rcases hcase with ⟨c,l,k,g1,g2,g3,g4,g5,g6,g7⟩|⟨k,g1,g2,g3⟩
 ·have hk:k<l.length:=by grind
  obtain⟨f1,f2,f3⟩:=m9 g2 hk g3;rw[g1]at e0;dsimp only at e0;rw[←g4]at e0;rw[e0]at hw'⊢;refine⟨rfl,rfl,bu,fun m=>?_⟩;by_cases hml:m<S.ws.length
  ·by_cases hm:m/64=a/64
   ·have hidx:(a≤m∧m<a+w)↔m%64/Sp.sz c=k:=by
     have hd:=Nat.div_add_mod (m%64) (Sp.sz c);have hlt:=Nat.mod_lt (m%64) (show 0<Sp.sz c by omega);constructor
     ·rintro⟨t1,t2⟩;have hx:k*Sp.sz c≤m%64∧m%64<k*Sp.sz c+Sp.sz c:=by omega
      have:=Nat.div_le_div_right (c:=Sp.sz c) hx.1;rw[Nat.mul_div_cancel _ ae]at this;have h2:m%64/Sp.sz c<k+1:=(Nat.div_lt_iff_lt_mul ae).mpr (by rw[Nat.add_mul];omega);omega
     ·intro g;rw[g]at hd;grind
    have hfS:=Sp.gn hml (by rw[hm];exact g1);have hnew:∀X:Pg,(S.pg.set (a/64) X)[m/64]? =some X:=fun X=>by grind
    by_cases hcnt:(l.set k false).count true=0
    ·rw[if_pos hcnt]at hw'⊢;have hfr:=hnew .free;rw[Sp.fb (S:=⟨S.ws,S.pg.set (a/64) .free⟩) hml (fun c l hc=>by grind),qe hw' hfr,Option.map_none];by_cases hi:m%64/Sp.sz c=k;·grind
     ·rw[if_neg (fun h=>hi (hidx.mp h)),hfS];have:l.getD (m%64/Sp.sz c) false=false:=by
       cases hg:l.getD (m%64/Sp.sz c) false with
       |false=>rfl
       |true=>
        have hmem:true∈l.set k false:=by refine List.mem_iff_getElem?.mpr ⟨m%64/Sp.sz c,?_⟩;grind
        grind
      rw[this];rfl
    ·rw[if_neg hcnt]at hw'⊢;rw[Sp.gn (S:=⟨S.ws,S.pg.set (a/64) (.small c (l.set k false))⟩) hml (hnew _),hfS];grind
   ·rw[if_neg (show¬(a≤m∧m<a+w) by omega)];have nh:∀k,S.pg[a/64]? ≠some (.head k):=by grind
    refine th hw hw' rfl eV<|xy hw' hw fun j k' t1 t2=>(k8 nh (fun k h=>?_) j k').symm;split at h<;>cases h
  ·rw[if_neg (show¬(a≤m∧m<a+w) by omega),Sp.iH bq,Sp.iH ae]
 ·rw[g1]at e0;rw[e0]at hw'⊢;refine⟨rfl,rfl,by simp[gZ],fun m=>?_⟩;obtain⟨k1,k2,k3,k4⟩:=hw.head _ _ g1;by_cases hml:m<S.ws.length
  ·by_cases hm:a≤m∧m<a+w
   ·rw[if_pos hm];have hfr:(Sp.gX S.pg (a/64) k)[m/64]? =some .free:=by rw[dO,if_pos ae,if_pos ae]
    rw[Sp.fb (S:=⟨S.ws,Sp.gX S.pg (a/64) k⟩) hml (fun c l hc=>by grind),qe hw' hfr];rfl
   ·rw[if_neg hm];have hoff:¬(a/64≤m/64∧m/64<a/64+k):=by omega
    refine th hw hw' rfl (by rw[g8 hoff])<|xy hw' hw fun j k' t1 t2=>?_;by_cases hj:a/64≤j∧j<a/64+k
    ·constructor;·intro h;rw[dO,if_pos ae,if_pos hj]at h;cases h
     grind
    ·rw[g8 hj]
  ·rw[if_neg ae,Sp.iH bq,Sp.iH ae]
theorem aY.free{S:aJ}{cs:List aX}(hw:aY S cs)(a:Int):aY (Sp.dH S a).2 cs:=by
 cases hf:Sp.find S a with
 |none=>(have:Sp.dH S a=(2,S):=by unfold Sp.dH;rw[hf]);rw[this];exact hw
 |some x=>
  obtain⟨s,w⟩:=x;by_cases hs:(s:Int)=a
  ·subst hs;obtain⟨h0,h1,h2,h3⟩:=vE hw.wf hf;refine⟨Sp.BX hw.wf _,fun n w' hn=>?_,hw.cls,hw.refs⟩;rw[h3]at hn;split at hn;·cases hn
   ·rw[h1];exact hw.obj n _ hn
  ·have:Sp.dH S a=(2,S):=by unfold Sp.dH;grind
   rw[this];exact hw
def Sw.sv(S:aJ)(l:List Int):aJ:=l.foldl (fun S a=>(Sp.dH S a).2) S
structure Sw.Left(S S':aJ)(cs:List aX)(l:List Int):Prop where
 hw:aY S' cs
 ws:S'.ws=S.ws
 pj:S'.pg.length=S.pg.length
 find:∀n w:Nat,Sp.find S' n=some (n,w)↔(Sp.find S n=some (n,w)∧(n:Int)∉l)
 head:∀b,Ob.head S' b=if b∈l then none else Ob.head S b
theorem Sw.Left.one{S:aJ}{cs:List aX}(hw:aY S cs){a:Int}(ha:a∈Sp.each S):(Sp.dH S a).1=0∧Sw.Left S (Sp.dH S a).2 cs [a]:=by
 obtain⟨n,w,rfl,hf⟩:=(fP hw.wf).mp ha;obtain⟨h0,h1,h2,h3⟩:=vE hw.wf hf;refine⟨h0,hw.free _,h1,h2,fun m w'=>?_,fun b=>?_⟩
 ·rw[h3,List.mem_singleton];split;·rename_i hc;have hin:=nm hw.wf hf hc.1 hc.2;grind
  ·rename_i hc;constructor;·intro h;refine⟨h,fun e=>hc ?_⟩;have hb:=hw.obj n w hf;obtain⟨hd,t1,t2,t3⟩:=hb;have:=Sp.cb t1;omega
   ·exact fun h=>h.1
 ·simp only[List.mem_singleton];by_cases hb:b=n;·unfold Ob.head;obtain⟨hd,t1,t2,t3⟩:=hw.obj n w hf;have:=Sp.cb t1;grind
  ·rw[if_neg hb];unfold Ob.head;by_cases hb0:0≤b
   ·obtain⟨m,rfl⟩:=Int.eq_ofNat_of_zero_le hb0;rw[h3 m,h1];by_cases hc:n≤m∧m<n+w;·rw[if_pos hc,nm hw.wf hf hc.1 hc.2];grind
    ·rw[if_neg hc]
   grind
theorem Sw.Left.each{S S':aJ}{cs:List aX}{l:List Int}(hw:aY S cs)(h:Sw.Left S S' cs l):Sp.each S'=(Sp.each S).filter fun a=>decide (a∉l):=by
 refine uQ (Sp.lZ h.hw.wf) ((Sp.lZ hw.wf).filter _) fun a=>?_;rw[fP h.hw.wf,List.mem_filter,fP hw.wf,decide_eq_true_iff];constructor;·rintro⟨n,w,rfl,hf⟩;obtain⟨h1,h2⟩:=(h.find n w).mp hf;grind
 ·rintro⟨⟨n,w,rfl,hf⟩,h2⟩;exact⟨n,w,rfl,(h.find n w).mpr ⟨hf,h2⟩⟩
theorem Sw.Left.nil{S:aJ}{cs:List aX}(hw:aY S cs):Sw.Left S S cs []:=⟨hw,rfl,rfl,by simp,by simp⟩
theorem Sw.Left.trans{S S' S'':aJ}{cs:List aX}{l l':List Int}(h:Sw.Left S S' cs l)(h':Sw.Left S' S'' cs l'):Sw.Left S S'' cs (l++l'):=by
 refine⟨h'.hw,h'.ws.trans h.ws,h'.pj.trans h.pj,fun n w=>?_,fun b=>?_⟩;·rw[h'.find,h.find,List.mem_append];grind
 ·rw[h'.head,h.head];grind
theorem Sw.pP{S:aJ}{l:List Int}{a:Int}:Sw.sv S (l++[a])=(Sp.dH (Sw.sv S l) a).2:=by unfold Sw.sv;simp
theorem Sw.p9{S:aJ}{cs:List aX}(hw:aY S cs){l:List Int}(hn:l.Nodup)(hs:∀a∈l,a∈Sp.each S):∀i,i≤l.length→Sw.Left S (Sw.sv S (l.take i)) cs (l.take i)
 |0,_=> .nil hw
 |i+1,hi=>by
  have ih:=Sw.p9 hw hn hs i ae;rw[aE 0 ae,Sw.pP];refine ih.trans (Sw.Left.one ih.hw ?_).2;rw[ih.each hw,List.mem_filter,decide_eq_true_iff];have hget:l.getD i 0=l[i]:=by grind
  rw[hget];refine⟨hs _ (List.getElem_mem _),fun hm=>?_⟩;obtain⟨j,hj,e⟩:=List.mem_iff_getElem.mp hm;rw[List.getElem_take]at e;simp at hj;exact List.pairwise_iff_getElem.mp hn j i _ _ ae e
def Sw.dead(S:aJ)(live:List Int):List Int:=(Sp.each S).filter fun a=>decide (a∉live)
theorem Sw.xV{S:aJ}(hw:Wf S)(live:List Int):(Sw.dead S live).Nodup∧∀a∈Sw.dead S live,a∈Sp.each S:=
 ⟨(np hw).filter _,fun a ha=>(List.mem_filter.mp ha).1⟩
def Sw.fo(S:aJ)(live:List Int):aJ:=Sw.sv S (Sw.dead S live)
theorem Sw.nN{S:aJ}{cs:List aX}(hw:aY S cs)(live:List Int):Sw.Left S (Sw.fo S live) cs (Sw.dead S live):=by obtain⟨h1,h2⟩:=Sw.xV hw.wf live;have:=Sw.p9 hw h1 h2 (Sw.dead S live).length (Nat.le_refl _);rwa [List.take_length]at this
theorem wo{α:Type}{k k':Int}{a:α}:∀{l:List (Int×α)},iy k (lf k' a l)=if k=k' then some a else iy k l
 |[]=>by
  unfold lf iy;by_cases h:k'=k;·grind
  ·rw[if_neg h,if_neg (fun e=>h e.symm)];rfl
 |x::l=>by
  unfold lf;by_cases hx:x.1=k';·unfold iy;grind
  ·rw[if_neg hx];unfold iy;by_cases h:x.1=k;·grind
   ·rw[if_neg h,if_neg h,wo]
theorem Mr:Tryz.prog.underlying 321=some (.map 3 4):=by kernel_rfl
theorem zB:(Tryz.prog.info? 4).bind (·.zero)=some (LK.bool.val false):=by kernel_rfl
theorem Az(p:Nat)(S:aJ)(cs:List aX)(hw:aY S cs){A:List aD}(s:av)(live:List Int)(ro:Rd ρ A s 1 (live.map i64))(hl:live.length<2^40):Gl.Spec ρ Zp 217 [pA p,.slice s.a s.n s.c] (aF p S cs::A) RS
  fun r M=>M=aw r 1 ((Sw.dead S live).map i64)::aF p S cs::A:=by
 have hel:=Sp.df hw.wf;refine So (F.fo.sJ.calls _ s) fun R=>?_;have hsn:=ro.len;refine ak rfl (sU bv fun b1=>?_);refine aM (fun m u M=>(fun(i:Int)=>∃l:List _,M=IM b1 bv l::aF p S cs::(A++R)∧0≤i∧i≤live.length∧m=live.length-i.toNat∧∀x,iy x l=if x∈live.take i.toNat then some true else none) u.1) live.length ?_ ?_;·exact⟨[],rfl,bu,bq,bu,fun x=>by simp[iy]⟩
 ·rintro m ⟨(i:Int),⟨⟩⟩ M ⟨l,rfl,i0,i1,rfl,hg⟩ X hX;refine ag (fun h=>?_) (fun h=>?_)
  ·replace h:i<(s.n:Int):=oT h;have hi:i.toNat<live.length:=by omega
   refine jg ro (aI.app A R).ly.ly i0 ae<|ri (f:=bv) Mr uI rfl tk ?_;rw[bG];refine hX _ _ _ ae ⟨_,rfl,bq,bq,rfl,fun x=>?_⟩;rw[wo,hg,show(i+1).toNat=i.toNat+1 by omega,aE 0 hi];grind
  ·replace h:¬i<(s.n:Int):=oF h;rw[List.take_of_length_le ae]at hg;refine af (aF.op tk fun ps pt=>?_);refine iL<|ai (jw _ S hw.wf) ar ?_;rintro q M ⟨hq,rfl⟩;refine tC (aF.cl) ?_;refine Tr.cL tk fun ρ' hle hro=>Tr.cg 1<|aM (fun m u M=>(fun t (i:Int)=>M=aw t 1 ((((Sp.each S).take i.toNat).filter fun a=>decide (a∉live)).map i64)::aF p S cs::IM b1 bv l::(A++R)∧0≤i∧i≤(Sp.each S).length∧m=(Sp.each S).length-i.toNat) u.1 u.2.1) (Sp.each S).length ?_ ?_;·simp
   ·rintro m ⟨(t:av),(i:Int),⟨⟩⟩ M ⟨rfl,i0,i1,rfl⟩ X hX;dsimp only at*;refine ag (fun h=>?_) (fun h=>?_)
    ·replace h:i<(q.n:Int):=oT h;have hi:i.toNat<(Sp.each S).length:=by omega
     apply cC hro i0 ae;have w1:IntKind.wrap .i64 _=i+1:=bG;have ht:(Sp.each S).take (i+1).toNat=(Sp.each S).take i.toNat++[(Sp.each S).getD i.toNat 0]:=by rw[show(i+1).toNat=i.toNat+1 by omega,aE 0 hi]
     generalize(Sp.each S).getD i.toNat 0=x at ht⊢;apply qP (g:=id) (l:=l) Mr uI zB (fun a=>rfl) tk;rw[hg];have hfl:=List.length_filter_le (fun a=>decide (a∉live)) ((Sp.each S).take i.toNat);have htl:=List.length_take_le i.toNat (Sp.each S);by_cases hx:x∈live;·rw[if_pos hx];refine bF ?_;rw[w1];refine hX ((Sp.each S).length-(i+1).toNat) _ _ ae ⟨?_,bq,bq,rfl⟩;simp_all
     ·rw[if_neg hx];refine bT<|dm bJ tk ae fun r hr=>?_;rw[w1];refine hX ((Sp.each S).length-(i+1).toNat) _ _ ae ⟨?_,bq,bq,rfl⟩;rw[ht,List.filter_append,List.filter_cons_of_pos (by simp[hx]),List.filter_nil]
    ·replace h:¬i<(q.n:Int):=oF h;rw[List.take_of_length_le ae];exact tD (IM _ _ l)<|ax rfl rfl (aI.app (_::_::A) R) .refl
theorem yV(p:Nat)(S:aJ)(cs:List aX)(hw:aY S cs){A:List aD}(s:av)(live:List Int)(ro:Rd ρ A s 1 (live.map i64))(hl:live.length<2^40):Gl.Spec ρ Zp 152 [pA p,.slice s.a s.n s.c] (aF p S cs::A) R1
  fun r M=>r=((Sw.dead S live).length:Nat)∧M=aF p (Sw.fo S live) cs::A:=by
 have hel:=Sp.df hw.wf;refine So (F.fo.nH.calls _ s) fun R=>ai (Az p S _ hw s _ ro hl) (aI.app _ R) ?_;rintro q M rfl;refine Tr.cL tk fun ρ' hle hro=>?_;have hqn:=hro.len;have hdl:(Sw.dead S live).length≤(Sp.each S).length:=List.length_filter_le _ _;obtain⟨hd1,hd2⟩:=Sw.xV hw.wf live;unfold Sw.fo;generalize Sw.dead S live=d at*;refine aM (fun m u M=>(fun(n i:Int)=>M=aF p (Sw.sv S (d.take i.toNat)) cs::(A++R)∧0≤i∧i≤d.length∧m=d.length-i.toNat∧n=i) u.1 u.2.1) d.length ?_ ?_;·exact⟨rfl,bu,bq,bu,rfl⟩
 ·rintro m ⟨(n:Int),(i:Int),⟨⟩⟩ M ⟨rfl,i0,i1,rfl,hni⟩ X hX;dsimp only at*;subst hni;refine ag (fun h=>?_) (fun h=>?_)
  ·replace h:n<(q.n:Int):=oT h;have hi:n.toNat<d.length:=by omega
   have hF:=Sw.p9 hw hd1 hd2 n.toNat ae;have ht:d.take (n+1).toNat=d.take n.toNat++[d.getD n.toNat 0]:=by rw[show(n+1).toNat=n.toNat+1 by omega,aE 0 hi]
   have hone:(Sp.dH (Sw.sv S (d.take n.toNat)) (d.getD n.toNat 0)).1=0:=by
    refine(Sw.Left.one hF.hw ?_).1;rw[hF.each hw,List.mem_filter,decide_eq_true_iff];have hget:d.getD n.toNat 0=d[n.toNat]:=by grind
    rw[hget];refine⟨hd2 _ (List.getElem_mem _),fun hm=>?_⟩;obtain⟨j,hj,e⟩:=List.mem_iff_getElem.mp hm;rw[List.getElem_take]at e;simp at hj;exact List.pairwise_iff_getElem.mp hd1 j _ _ _ ae e
   refine cC hro i0 ae<|af (aF.op tk fun ps pt=>?_);refine iL<|cE (Bt _ _ hF.hw.wf _) ?_;rw[hone];refine bT<|tC (aF.cl) ?_;rw[bG];refine hX (d.length-(n+1).toNat) _ _ ae ⟨?_,bq,bq,rfl,rfl⟩;rw[ht,Sw.pP]
  ·replace h:¬n<(q.n:Int):=oF h;rw[List.take_of_length_le ae];refine ax (x:=(d.length:Int)) ?_ ⟨rfl,rfl⟩ (aI.app (_::A) R) .refl;rw[show n=((d.length:Nat):Int) by omega];rfl
end
end Go.Proofs.YtjginndmmlkjiaaGreat
