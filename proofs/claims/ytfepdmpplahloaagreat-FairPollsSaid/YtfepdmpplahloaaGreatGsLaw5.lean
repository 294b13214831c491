/- L1 Law2 Law3 Law4 Law5. -/
import Derived.Test.YtfepdmpplahloaaGreatGsLaw
import Derived.Test.YtfepdmpplahloaaGreatGsTr1
set_option linter.unusedSimpArgs false
set_option linter.unusedVariables false
namespace Go.Proofs.YtfepdmpplahloaaGreat
open Go Go.Gl
variable{ρ0 ρ:FR}{L L':List aA}{Post:Value→List aA→Prop}{T:Tree}
theorem sf(e:Int):Gl.Spec ρ Tryz.prog 10 [i64 e] [] R1 fun r M=>r=e∧M=[]:=by
 refine Spec.of (fun Q w h=>F.gk.E6.calls e h) fun R=> ?_
 unfold F.gk.E6
 try simp only[aq,al]
 exact aa (x:=e) rfl ⟨rfl,rfl⟩ ag aB
end Go.Proofs.YtfepdmpplahloaaGreat
namespace Go.Proofs.YtfepdmpplahloaaGreat
open Go Go.Gl
variable{ρ0 ρ:FR}{L L':List aA}{Post:Value→List aA→Prop}{T:Tree}
theorem Ob.bX{S:aD}{cs:List aS}(hw:aO S cs){h:Hd}(h0:(Ob.make S cs h).2.1=0){a:Int}{h':Hd}(hh:Ob.head S a=some h'):
  Ob.head (Ob.make S cs h).2.2 a=some h'∧a≠(Ob.make S cs h).1∧∀i,0≤i→i<h'.n→Ob.get (Ob.make S cs h).2.2 a i=Ob.get S a i:=by
 obtain⟨b,n,e1,e2,e3,e4,e5,e6,e7,e8,e9⟩:=Ob.g9 hw h0
 obtain⟨m,w,rfl,g1,g2,g3,g4,g5⟩:=Ob.bt hw hh
 have hb:=Sp.bU g3
 have hout:∀j:Nat,m≤j→j<m+w→¬(b≤j∧j<b+n):=fun j j1 j2 hc=>by
  have t1:=jw hw.wf g1 j1 j2
  rw[e8 j hc.1 hc.2]at t1;cases t1
 have hwd:∀j:Nat,m≤j→j<m+w→(Ob.make S cs h).2.2.ws.getD j 0=S.ws.getD j 0:=fun j j1 j2=>by
  have:=hout j j1 j2
  have hb1:=Sp.bU (Ob.jD e2).1
  rw[e6,cK (by omega),o9 e5,if_neg this]
 have hm:¬(b≤m∧m<b+n):=hout m (by omega) (by omega)
 have hhd:Ob.head (Ob.make S cs h).2.2 m=some h':=by
  unfold Ob.head
  rw[e7 m,if_neg hm,g1]
  dsimp only
  rw[if_pos rfl,hwd m (by omega) (by omega),g2,Sp.gN g3]
 refine⟨hhd,?_,fun i i0 i1=> ?_⟩
 ·have hb1:=Sp.bU (Ob.jD e2).1
  rw[e1];intro e;exact hm (by omega)
 ·rw[Ob.da hhd i0 i1,Ob.da hh i0 i1,hwd _ (by omega) (by omega)]
theorem Ob.j9{S:aD}{cs:List aS}(hw:aO S cs){a i x:Int}{h:Hd}(hh:Ob.head S a=some h)(i0:0≤i)(i1:i<h.n):
  (Ob.put S a i x).1=0∧∀(a':Int) (h':Hd),Ob.head S a'=some h'→Ob.head (Ob.put S a i x).2 a'=some h'∧∀j,0≤j→j<h'.n→Ob.get (Ob.put S a i x).2 a' j=if a'=a∧j=i then(x,0)else Ob.get S a' j:=by
 obtain⟨m,w,rfl,g1,g2,g3,g4,g5⟩:=Ob.bt hw hh
 have e:Ob.fieldAt S m i=((m:Int)+1+i,0):=by unfold Ob.fieldAt;rw[hh];dsimp only;rw[if_neg (by rintro(h|h)<;>omega)]
 have ep:Ob.put S m i x=(0,⟨S.ws.set ((m:Int)+1+i).toNat x,S.pg⟩):=by unfold Ob.put;rw[e,if_neg (by simp)]
 rw[ep]
 refine⟨rfl,fun a' h' hh'=> ?_⟩
 obtain⟨m',w',rfl,g1',g2',g3',g4',g5'⟩:=Ob.bt hw hh'
 have hin:=jw hw.wf g1 (m:=((m:Int)+1+i).toNat) (by omega) (by omega)
 have hne:((m:Int)+1+i).toNat≠m':=fun e2=>by
  rw[e2,g1']at hin;injection hin with hin;injection hin with hin _;omega
 have hhd:Ob.head ⟨S.ws.set ((m:Int)+1+i).toNat x,S.pg⟩ m'=some h':=by
  unfold Ob.head
  rw[eN (by simp),g1']
  dsimp only
  rw[if_pos rfl,cK hne,g2',Sp.gN g3']
 refine⟨hhd,fun j j0 j1=> ?_⟩
 rw[Ob.da hhd j0 j1,Ob.da hh' j0 j1]
 dsimp only
 split
 ·rename_i hc
  have:m'=m:=by omega
  subst this
  rw[hc.2,eL (by omega)]
 ·rename_i hc
  rw[cK ?_]
  intro e2
  have hin':=jw hw.wf g1' (m:=((m':Int)+1+j).toNat) (by omega) (by omega)
  rw[←e2,hin]at hin'
  injection hin' with hin';injection hin' with hin' _
  exact hc ⟨by omega,by omega⟩
end Go.Proofs.YtfepdmpplahloaaGreat
namespace Go.Proofs.YtfepdmpplahloaaGreat
open Go Go.Gl
variable{ρ0 ρ:FR}{L L':List aA}{Post:Value→List aA→Prop}{T:Tree}
structure Bi(pg:List Pg)(m:Nat):Prop where
 le:m≤pg.length
 used:∀j:Nat,j<m→pg[j]? ≠some .free
 free:∀j:Nat,m≤j→j<pg.length→pg[j]? =some .free
theorem Bi.new{n:Nat}(h:1≤n):Bi (Sp.bB n).pg 1:=by
 unfold Sp.bB
 refine⟨by simp,fun j hj=> ?_,fun j h1 h2=> ?_⟩
 ·have:j=0:=by omega
  subst this;simp
 ·obtain⟨i,rfl⟩:∃i,j=i+1:=⟨j-1,by omega⟩
  simp[List.getElem?_replicate]at h2⊢
  omega
theorem oE{pg:List Pg}{m k:Nat}(h:Bi pg m)(hk:1≤k)(hm:m+k≤pg.length):Sp.run (pg.map Pg.taken) k=some m:=by
 refine Sp.ud (by simpa using hm) (Sp.eB.mpr fun j h1 h2=> ?_) fun j hj=> ?_
 ·rw[cr,fI (h.free j h1 (by omega))];rfl
 ·cases hc:Sp.dZ (pg.map Pg.taken) j k with
  |false=>rfl
  |true=>
   exfalso
   have:=Sp.eB.mp hc j (by omega) (by omega)
   rw[cr]at this
   have hu:=h.used j hj
   rw[kN (by omega:j<pg.length)]at hu
   revert this hu
   generalize pg.getD j .free=x
   cases x<;>simp[Pg.taken]
def Sp.bQ(w:Int):Nat:=if Sp.cls w<0 then(Sp.jL w).toNat else 1
theorem ym{S:aD}(hw:Wf S){m:Nat}(h:Bi S.pg m){w:Int}(hb:Sp.aw w≠0)(hm:m+Sp.bQ w≤S.pg.length):
  (Sp.alloc S w).2.1=0∧∃m',Bi (Sp.alloc S w).2.2.pg m'∧m'≤m+Sp.bQ w:=by
 have key:(Sp.place S.pg w).2.1=0∧∃m',Bi (Sp.place S.pg w).2.2 m'∧m'≤m+Sp.bQ w:=by
  rcases Sp.h9 hw hb with e|⟨i,k,h1,h2,h3,h4,h5,h6,h7,e⟩|⟨c,i,k,l,h1,h2,h3,h4,h5,h6,h7,h8,e⟩
  ·exfalso
   by_cases hc:Sp.cls w<0
   ·have hn:Sp.bQ w=(Sp.jL w).toNat:=by unfold Sp.bQ;rw[if_pos hc]
    obtain⟨k1,k2,_⟩:=Sp.oy hb hc
    unfold Sp.place at e
    rw[if_pos hc,oE h (by omega) (by omega)]at e
    have:=congrArg (fun x=>x.2.1) e
    simp at this
   ·have hn:Sp.bQ w=1:=by unfold Sp.bQ;rw[if_neg hc]
    unfold Sp.place at e
    rw[if_neg hc]at e
    split at e
    ·have:=congrArg (fun x=>x.2.1) e
     simp[Sp.cw]at this
    ·rw[oE h (by omega) (by omega)]at e
     have:=congrArg (fun x=>x.2.1) e
     simp[Sp.cw]at this
  ·rw[e]
   have hn:Sp.bQ w=k:=by unfold Sp.bQ;rw[if_pos h1,h2,Int.toNat_natCast]
   refine⟨rfl,m+k,?_,by omega⟩
   have him:i=m:=by
    have hr:=oE h h3 (by omega:m+k≤S.pg.length)
    unfold Sp.place at e
    rw[if_pos h1,h2,Int.toNat_natCast,hr]at e
    have:=congrArg (fun x=>x.1) e
    dsimp only at this
    omega
   subst him
   dsimp only
   refine⟨by rw[iZ];omega,fun j hj=> ?_,fun j j1 j2=> ?_⟩
   ·by_cases hj2:i≤j∧j<i+k
    ·rw[cA,if_pos (by omega)]
     split
     ·simp
     ·rw[if_pos (by omega)];simp
    ·rw[dn h3 hj2];exact h.used j (by omega)
   ·rw[iZ]at j2
    rw[dn h3 (by omega)];exact h.free j (by omega) j2
  ·rw[e]
   have hn:Sp.bQ w=1:=by unfold Sp.bQ;rw[if_neg (by omega)]
   have him:i≤m:=by
    rcases h5 with h5|⟨_,_,hr⟩
    ·rcases Nat.lt_or_ge i m with c|c
     ·omega
     ·rw[h.free i c h4]at h5;cases h5
    ·rw[oE h (by omega) (by omega)]at hr
     injection hr with hr;omega
   refine⟨rfl,max m (i+1),?_,by omega⟩
   dsimp only
   refine⟨by rw[List.length_set];omega,fun j hj=> ?_,fun j j1 j2=> ?_⟩
   ·rw[cB h4]
    split
    ·simp
    ·exact h.used j (by omega)
   ·rw[List.length_set]at j2
    rw[cB h4,if_neg (by omega)]
    exact h.free j (by omega) j2
 unfold Sp.alloc
 rw[if_neg hb,if_pos key.1]
 exact⟨rfl,key.2⟩
end Go.Proofs.YtfepdmpplahloaaGreat
namespace Go.Proofs.YtfepdmpplahloaaGreat
open Go Go.Gl
theorem nQ{S:aD}(hw:Wf S){n w:Nat}(h:Sp.find S n=some (n,w)):(n:Int)∈Sp.each S:=by
 obtain⟨hn,hcase⟩:=Sp.jm hw h rfl
 refine Sp.cg.mpr ?_
 rcases hcase with ⟨c,l,k,h1,h2,h3,h4,h5,h6,h7⟩|⟨k,h1,h2,h3⟩
 ·refine⟨n/64,aV h1,?_⟩
  unfold Sp.gE
  rw[fI h1]
  have hk:k<l.length:=by
   rcases Nat.lt_or_ge k l.length with c|c
   ·exact c
   ·rw[List.getD_eq_getElem?_getD,List.getElem?_eq_none c]at h5;cases h5
  simp only[Sp.gU,List.mem_filterMap,List.mem_range]
  refine⟨k,hk,?_⟩
  rw[if_pos h5,←h6]
 ·refine⟨n/64,aV h1,?_⟩
  unfold Sp.gE
  rw[fI h1]
  simp only[Sp.gU,List.mem_singleton]
  omega
theorem cg{S:aD}(hw:Wf S){a:Int}:a∈Sp.each S↔∃n w:Nat,a=n∧Sp.find S n=some (n,w):=by
 constructor
 ·intro h
  obtain⟨n,h1,_,w,h2,_⟩:=Sp.iL hw h
  exact⟨n,w,h1,h2⟩
 ·rintro⟨n,w,rfl,h⟩
  exact nQ hw h
theorem eh{S:aD}(hw:Wf S):(Sp.each S).Nodup:=(Sp.hG hw).imp fun h=>by omega
theorem nP{S:aD}{cs:List aS}(hw:aO S cs){h:Hd}(h0:(Ob.make S cs h).2.1=0):(Sp.each (Ob.make S cs h).2.2).Perm ((Ob.make S cs h).1::Sp.each S):=by
 obtain⟨a,n,e1,e2,e3,e4,e5,e6,e7,e8,e9⟩:=Ob.g9 hw h0
 have hb:=Sp.bU (Ob.jD e2).1
 rw[List.perm_ext_iff_of_nodup (eh e9.wf)]
 ·intro x
  rw[cg e9.wf,List.mem_cons,cg hw.wf,e1]
  constructor
  ·rintro⟨m,w,rfl,hf⟩
   rw[e7]at hf
   by_cases hm:a≤m∧m<a+n
   ·rw[if_pos hm]at hf
    injection hf with hf;injection hf with f1 f2
    exact .inl (by omega)
   ·rw[if_neg hm]at hf
    exact .inr ⟨m,w,rfl,hf⟩
  ·rintro(rfl|⟨m,w,rfl,hf⟩)
   ·exact⟨a,n,rfl,by rw[e7,if_pos ⟨by omega,by omega⟩]⟩
   ·refine⟨m,w,rfl,?_⟩
    rw[e7]
    have hm:¬(a≤m∧m<a+n):=fun hc=>by rw[e8 m hc.1 hc.2]at hf;cases hf
    rw[if_neg hm];exact hf
 ·rw[List.nodup_cons]
  refine⟨fun hx=> ?_,eh hw.wf⟩
  obtain⟨m,w,e,hf⟩:=(cg hw.wf).mp hx
  rw[e1]at e
  have:m=a:=by omega
  subst this
  rw[e8 m (by omega) (by omega)]at hf;cases hf
theorem kj{S:aD}{cs:List aS}(hw:aO S cs)(a i x:Int):Sp.each (Ob.put S a i x).2=Sp.each S:=by
 obtain⟨ws',e,hl⟩:=pG S a i x
 rw[e];rfl
theorem Ax{S:aD}{cs:List aS}(hw:aO S cs){m:Nat}(hp:Bi S.pg m){h:Hd}(hm:Ob.may cs h=0)(hr:m+Sp.bQ (h.n+1)≤S.pg.length):
  (Ob.make S cs h).2.1=0∧(∃m',Bi (Ob.make S cs h).2.2.pg m'∧m'≤m+Sp.bQ (h.n+1))∧(Ob.make S cs h).2.2.pg.length=S.pg.length:=by
 have hb:=Sp.bU (Ob.jD hm).1
 have hb0:Sp.aw (h.n+1)≠0:=by
  intro e
  unfold Sp.aw at e
  rcases Sp.iT (h.n+1)with ⟨h1,c⟩|⟨h1,h2,c⟩|⟨h1,h2,c⟩|⟨h1,h2,c⟩|⟨h1,h2,c⟩|⟨h1,h2,c⟩|⟨h1,c⟩<;>rw[c]at e
  ·omega
  ·rw[if_pos (by decide)]at e;revert e;decide
  ·rw[if_pos (by decide)]at e;revert e;decide
  ·rw[if_pos (by decide)]at e;revert e;decide
  ·rw[if_pos (by decide)]at e;revert e;decide
  ·rw[if_pos (by decide)]at e;revert e;decide
  ·rw[if_neg (by decide)]at e
   unfold Sp.jL at e
   rw[if_neg (by rw[c];rintro(h|h|h)<;>omega)]at e
   omega
 obtain⟨h1,m',h2,h3⟩:=ym hw.wf hp hb0 hr
 have hmk:(Ob.make S cs h).2.1=0∧(Ob.make S cs h).2.2.pg=(Sp.alloc S (h.n+1)).2.2.pg:=by
  unfold Ob.make
  rw[if_neg (by simp[hm]),if_neg (by simp[h1])]
  exact⟨rfl,rfl⟩
 rw[hmk.2]
 refine⟨hmk.1,⟨m',h2,h3⟩,?_⟩
 have l1:=(Sp.pX hw.wf (h.n+1)).len
 obtain⟨_,_,_,_,_,_,_,_,l2⟩:=Sp.p6 hw.wf h1
 have l3:=hw.wf.len
 omega
end Go.Proofs.YtfepdmpplahloaaGreat
namespace Go.Proofs.YtfepdmpplahloaaGreat
open Go Go.Gl
variable{ρ0 ρ:FR}{L L':List aA}{Post:Value→List aA→Prop}{T:Tree}
theorem Ob.fu{S:aD}{cs:List aS}(hw:aO S cs){a:Int}{h:Hd}(hh:Ob.head S a=some h)(hk:h.k≠4)(hf:h.f=false):
  (Ob.final S a).1=0∧Ob.head (Ob.final S a).2 a=some {h with f:=true}∧(∀(a':Int) (h':Hd),a'≠a→Ob.head S a'=some h'→Ob.head (Ob.final S a).2 a'=some h')∧
  ∀(a':Int) (h':Hd) (j:Int),Ob.head S a'=some h'→0≤j→j<h'.n→Ob.get (Ob.final S a).2 a' j=Ob.get S a' j:=by
 obtain⟨m,w,rfl,g1,g2,g3,g4,g5⟩:=Ob.bt hw hh
 have hb:=Sp.bU g3
 have e:Ob.final S m=(0,⟨S.ws.set m (Sp.dJ {h with f:=true}),S.pg⟩):=by
  unfold Ob.final;rw[hh];dsimp only;rw[if_neg hk,if_neg (by simp[hf]),Int.toNat_natCast]
 rw[e]
 have h1:Ob.head ⟨S.ws.set m (Sp.dJ {h with f:=true}),S.pg⟩ m=some {h with f:=true}:=by
  unfold Ob.head
  rw[eN (by simp),g1]
  dsimp only
  rw[if_pos rfl,eL (by omega),Sp.gN (Sp.ve g3 hk)]
 have h2:∀(a':Int) (h':Hd),a'≠m→Ob.head S a'=some h'→Ob.head ⟨S.ws.set m (Sp.dJ {h with f:=true}),S.pg⟩ a'=some h':=fun a' h' hne hh'=>by
  obtain⟨m',w',rfl,g1',g2',g3',g4',g5'⟩:=Ob.bt hw hh'
  unfold Ob.head
  rw[eN (by simp),g1']
  dsimp only
  rw[if_pos rfl,cK (by omega),g2',Sp.gN g3']
 refine⟨rfl,h1,h2,fun a' h' j hh' j0 j1=> ?_⟩
 obtain⟨m',w',rfl,g1',g2',g3',g4',g5'⟩:=Ob.bt hw hh'
 have key:∃h2:Hd,Ob.head ⟨S.ws.set m (Sp.dJ {h with f:=true}),S.pg⟩ m'=some h2∧h2.n=h'.n:=by
  by_cases hc:(m':Int)=m
  ·rw[hc]at hh'⊢
   rw[hh]at hh';injection hh' with hh'
   exact⟨_,h1,by rw[←hh']⟩
  ·exact⟨_,h2 _ _ hc hh',rfl⟩
 obtain⟨hd,k1,k2⟩:=key
 rw[Ob.da k1 j0 (by omega),Ob.da hh' j0 j1]
 dsimp only
 rw[cK ?_]
 intro e2
 have hin:=jw hw.wf g1' (m:=((m':Int)+1+j).toNat) (by omega) (by omega)
 rw[←e2,g1]at hin
 injection hin with hin;injection hin with hin _
 omega
theorem Dg{w:Int}(h0:1≤w)(h1:w≤64):Sp.bQ w≤1:=by
 unfold Sp.bQ
 split
 ·unfold Sp.jL
  split<;>omega
 ·omega
theorem B7{S:aD}{cs:List aS}(hw:aO S cs){c:aS}(h1:cs.length<256)(h2:c.2.length≤2^20):aO S (cs++[c]):=
 ⟨hw.wf,hw.obj,by simp;omega,fun x hx=>by
  rcases List.mem_append.mp hx with hx|hx
  ·exact hw.refs x hx
  ·simp at hx;subst hx;exact h2⟩
end Go.Proofs.YtfepdmpplahloaaGreat
