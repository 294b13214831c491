/- Stab Stab2 Stab3 Stab4 Stab5. -/
import Derived.Test.YtfepdmpplahloaaGreatGsLaw5
import Derived.Test.YtfepdmpplahloaaGreatGsGraph2
import Derived.Test.YtfepdmpplahloaaGreatGsTs
import Derived.Test.YtfepdmpplahloaaGreatGsTp
set_option linter.unusedSimpArgs false
set_option linter.unusedVariables false
namespace Go.Gl
open Go
variable{ρ0 ρ:FR}{L L':List aA}{Post:Value→List aA→Prop}
theorem qG{s:ay}{m:Nat}{xs:List Value}{a0 a:Addr}{j:Nat}(hs:s.a=some a0)(t:Take L (aE s m xs) L')(ha:∀b o,a0=⟨b,o,none⟩→a=⟨b,o+j,none⟩):
  ∀(ks:List LK) (i:Nat) {f:LTs ks→Tree} {x:LTs ks} (_:∀e v,(dh ks x)[e]? =some v→xs[j+i+e]? =some v) (_:Tr ρ0 ρ L (f x) Post),Tr ρ0 ρ L (Bk a i ks f) Post
 |[],i,f,x,_,h=>h
 |k::ks,i,f,x,hv,h=>by
  refine cT (j:=j+i) (x:=x.1) hs t (fun b o e=>by rw[ha b o e,af,Nat.add_assoc]) (by simpa using hv 0 (k.val x.1) rfl) ?_
  exact qG hs t ha ks (i+1) (x:=x.2) (fun e v he=>by have:=hv (e+1) v he;rw[←this];congr 1;omega) h
theorem Ap{M M':List aA}{s:ay}{m:Nat}{xs:List Value}{k:LK}{a a0:Addr}{f:LT k→Tree}{j:Nat}{x:LT k}(hs:s.a=some a0)(t:Take M (aE s m xs) M')(ha:∀b o,a0=⟨b,o,none⟩→a=⟨b,o+j,none⟩)
  (hx:xs[j]? =some (k.val x)) (h:Tr ρ0 ρ L (f x) Post):Tr ρ0 ρ L (yw (Sat ρ M) k a f) Post:=fun hle w hw=>by
 have hj:j<xs.length:=(List.getElem?_eq_some_iff.1 hx).1
 refine⟨x,fun w' hw'=> ?_,h hle w hw⟩
 rcases(hw'.perm t.perm).sl with ⟨g1,_⟩|⟨b,off,pre,rest,g1,g2,g3,g4,g5,g6⟩
 ·rw[hs]at g1;cases g1
 ·rw[hs]at g1
  injection g1 with g1
  obtain⟨ty,hb⟩:=g6.cl
  rw[ha b off g1]
  refine cell_of hb ?_
  rw[List.getElem?_toArray,←g2,gp hj,hx]
theorem o8{M M':List aA}{s:ay}{m:Nat}{xs:List Value}{a0 a:Addr}{j:Nat}(hs:s.a=some a0)(t:Take M (aE s m xs) M')(ha:∀b o,a0=⟨b,o,none⟩→a=⟨b,o+j,none⟩):
  ∀(ks:List LK) (i:Nat) {f:LTs ks→Tree} {x:LTs ks} (_:∀e v,(dh ks x)[e]? =some v→xs[j+i+e]? =some v) (_:Tr ρ0 ρ L (f x) Post),Tr ρ0 ρ L (ye (Sat ρ M) a i ks f) Post
 |[],i,f,x,_,h=>h
 |k::ks,i,f,x,hv,h=>by
  refine Ap (j:=j+i) (x:=x.1) hs t (fun b o e=>by rw[ha b o e,af,Nat.add_assoc]) (by simpa using hv 0 (k.val x.1) rfl) ?_
  exact o8 hs t ha ks (i+1) (x:=x.2) (fun e v he=>by have:=hv (e+1) v he;rw[←this];congr 1;omega) h
end Go.Gl
namespace Go.Proofs.YtfepdmpplahloaaGreat
open Go Go.Gl
variable{ρ0 ρ:FR}{L L':List aA}{Post:Value→List aA→Prop}{T:Tree}
abbrev KR:List LK:=[.int .i64,.int .i64,.int .i64,.int .i64,.int .i64,.int .i64]
abbrev bW:Type:=LTs KR
def rc(r:bW):List Value:=dh KR r
theorem dQ(r:bW):(rc r).length=6:=rfl
def d6:bW:=((0:Int),(0:Int),(0:Int),(0:Int),(0:Int),(0:Int),())
def cD(r:bW):Int:=r.2.2.2.2.2.1
theorem pT{s:ay}{l:List bW}(t:Take L (aE s 6 (l.flatMap rc)) L')(h:s.n=l.length→Tr ρ0 ρ L T Post):Tr ρ0 ρ L T Post:=by
 refine Tr.fD t fun hn _=>h ?_
 rw[gM (g:=rc) (m:=6) dQ]at hn
 omega
theorem gY{s:ay}{l:List bW}{i:Int}{f:bW→Tree}(t:Take L (aE s 6 (l.flatMap rc)) L')(h0:0≤i)(h1:i<l.length)(h:Tr ρ0 ρ L (f (l.getD i.toNat d6)) Post):
  Tr ρ0 ρ L (ix s.a s.n i 6 fun a=>ld (.g KR) a f) Post:=by
 refine pT t fun hn=> ?_
 refine cn t h0 (by omega) fun a0 ha=> ?_
 have hi:l[i.toNat]? =some (l.getD i.toNat d6):=by rw[List.getD_eq_getElem?_getD,List.getElem?_eq_getElem (by omega)];rfl
 refine qG (j:=i.toNat*6) ha t (by rintro b o rfl;simp[af]) KR 0 (x:=l.getD i.toNat d6) (fun e v he=> ?_) h
 have hlt:e<6:=(List.getElem?_eq_some_iff.1 he).1
 rw[Nat.add_zero,eO (g:=rc) (m:=6) dQ hi hlt];exact he
theorem fV{M M':List aA}{s:ay}{l:List bW}{i:Int}{f:bW→Tree}(t0:Take L (aE s 6 (l.flatMap rc)) L')(t:Take M (aE s 6 (l.flatMap rc)) M')(h0:0≤i)(h1:i<l.length)(h:Tr ρ0 ρ L (f (l.getD i.toNat d6)) Post):
  Tr ρ0 ρ L (ix s.a s.n i 6 fun a=>bm (Sat ρ M) (.g KR) a f) Post:=by
 refine pT t0 fun hn=> ?_
 refine cn t0 h0 (by omega) fun a0 ha=> ?_
 have hi:l[i.toNat]? =some (l.getD i.toNat d6):=by rw[List.getD_eq_getElem?_getD,List.getElem?_eq_getElem (by omega)];rfl
 refine o8 (j:=i.toNat*6) ha t (by rintro b o rfl;simp[af]) KR 0 (x:=l.getD i.toNat d6) (fun e v he=> ?_) h
 have hlt:e<6:=(List.getElem?_eq_some_iff.1 he).1
 rw[Nat.add_zero,eO (g:=rc) (m:=6) dQ hi hlt];exact he
theorem xu{l:List bW}{i:Nat}{r:bW}(h:i<l.length):bN (l.flatMap rc) (i*6) (rc r)=(l.set i r).flatMap rc:=by
 have e:l=l.take i++l[i]::l.drop (i+1):=by rw[←List.drop_eq_getElem_cons h,List.take_append_drop]
 have hp:((l.take i).flatMap rc).length=i*6:=by rw[gM (g:=rc) (m:=6) dQ,List.length_take];omega
 have e2:l.set i r=l.take i++r::l.drop (i+1):=by rw[List.set_eq_take_append_cons_drop,if_pos h]
 rw[e2,List.flatMap_append,List.flatMap_cons]
 have e3:l.flatMap rc=(l.take i).flatMap rc++(rc l[i]++(l.drop (i+1)).flatMap rc):=by
  conv=>lhs;rw[e]
  rw[List.flatMap_append,List.flatMap_cons]
 rw[e3,←hp]
 have:=mz (pre:=(l.take i).flatMap rc) (xs:=rc l[i]) (rest:=(l.drop (i+1)).flatMap rc) (vs:=rc r) (j:=0) (by rw[dQ,dQ];omega)
 simp only[Nat.add_zero]at this
 rw[this]
 rfl
theorem hE{s:ay}{l:List bW}{i:Int}{r:bW}{k:Tree}(t:Take L (aE s 6 (l.flatMap rc)) L')(h0:0≤i)(h1:i<l.length)(h:Tr ρ0 ρ (aE s 6 ((l.set i.toNat r).flatMap rc)::L') k Post):
  Tr ρ0 ρ L (ix s.a s.n i 6 fun a=>st a (rc r) k) Post:=by
 refine pT t fun hn=> ?_
 refine cn t h0 (by omega) fun a0 ha=> ?_
 refine gu (j:=i.toNat*6) ha t (by rintro b o rfl;simp[af]) (by rw[gM (g:=rc) (m:=6) dQ,dQ];omega) rfl ?_
 rw[xu (by omega)]
 exact h
def zN(l:List bW)(i j:Nat):List bW:=(l.set i (l.getD j d6)).set j (l.getD i d6)
theorem vu{l:List bW}{i j:Nat}:(zN l i j).length=l.length:=by simp[zN]
theorem tm{l:List bW}{i j:Nat}{x:bW}(hj:j<l.length):(l.set i x).getD j d6=if i=j then x else l.getD j d6:=by
 rw[List.getD_eq_getElem?_getD,List.getElem?_set]
 by_cases h:i=j
 ·subst h;rw[if_pos rfl,if_pos hj,if_pos rfl];rfl
 ·rw[if_neg h,if_neg h,←List.getD_eq_getElem?_getD]
theorem iX{l:List bW}{k:Nat}(h:l.length≤k):l.getD k d6=d6:=by rw[List.getD_eq_getElem?_getD,List.getElem?_eq_none h];rfl
theorem lF{l:List bW}{i j k:Nat}(hi:i<l.length)(hj:j<l.length):(zN l i j).getD k d6=if k=j then l.getD i d6 else if k=i then l.getD j d6 else l.getD k d6:=by
 rcases Nat.lt_or_ge k l.length with hk|hk
 ·unfold zN
  rw[tm (by simpa using hk),tm hk]
  by_cases h1:k=j
  ·rw[if_pos h1.symm,if_pos h1]
  ·rw[if_neg (fun e=>h1 e.symm),if_neg h1]
   by_cases h2:k=i
   ·rw[if_pos h2.symm,if_pos h2]
   ·rw[if_neg (fun e=>h2 e.symm),if_neg h2]
 ·rw[iX (by rw[vu];exact hk),if_neg (by omega),if_neg (by omega),iX hk]
theorem wO{l:List bW}{i j:Nat}(hi:i<l.length)(hj:j<l.length):(zN l i j).Perm l:=by
 have:=List.set_set_perm hi hj
 unfold zN
 rw[show l.getD i d6=l[i] by rw[List.getD_eq_getElem?_getD,List.getElem?_eq_getElem hi];rfl,show l.getD j d6=l[j] by rw[List.getD_eq_getElem?_getD,List.getElem?_eq_getElem hj];rfl]
 exact this
theorem lI(s:ay)(l:List bW)(a b n:Nat)(v:Value)(hab:a+n≤b)(hb:b+n≤l.length)(hl:l.length<2^40):Gl.Spec ρ Tryz.prog 232 [.slice s.a s.n s.c,i64 a,i64 b,i64 n,v] [aE s 6 (l.flatMap rc)] (.many [])
  fun _ M=>∃l':List bW,M=[aE s 6 (l'.flatMap rc)]∧l'.length=l.length∧l'.Perm l∧∀k,l'.getD k d6=if a≤k∧k<a+n then l.getD (k+b-a) d6 else if b≤k∧k<b+n then l.getD (k+a-b) d6 else l.getD k d6:=by
 refine Spec.of (fun Q w h=>F.av.cj.calls s a b n v h) fun R=> ?_
 unfold F.av.cj
 try simp only[aq,al]
 refine aP (fun m u M=>(fun i:Int=>∃l':List bW,M=aE s 6 (l'.flatMap rc)::R∧0≤i∧i≤n∧m=n-i.toNat∧l'.length=l.length∧l'.Perm l∧∀k,l'.getD k d6=if a≤k∧k<a+i.toNat then l.getD (k+b-a) d6 else if b≤k∧k<b+i.toNat then l.getD (k+a-b) d6 else l.getD k d6) u.1) n ?_ ?_
 ·refine⟨l,rfl,by simp,by dsimp only;omega,by simp,rfl,.refl _,fun k=> ?_⟩
  dsimp only
  rw[if_neg (by simp<;>omega),if_neg (by simp<;>omega)]
 ·rintro m ⟨(i:Int),⟨⟩⟩ M ⟨l1,rfl,i0,i1,rfl,hl1,hp,hg⟩ X hX
  dsimp only at i0 i1 hg hX⊢
  refine aj (fun h=> ?_) (fun h=> ?_)
  ·replace h:i<n:=of_decide_eq_true h
   obtain⟨iN,rfl⟩:=Int.eq_ofNat_of_zero_le i0
   simp only[Int.toNat_natCast]at*
   rw[wrap64 (n:=(b:Int)+iN) (by omega) (by omega),wrap64 (n:=(a:Int)+iN) (by omega) (by omega),wrap64 (n:=(iN:Int)+1) (by omega) (by omega)]
   rw[show(b:Int)+iN=((b+iN:Nat):Int) by omega,show(a:Int)+iN=((a+iN:Nat):Int) by omega]
   refine aK (aR [aE s 6 (l1.flatMap rc)] ag ?_)
   refine fV (s:=s) (l:=l1) tk tk (by omega) (by omega) ?_
   refine fV (s:=s) (l:=l1) tk tk (by omega) (by omega) ?_
   simp only[Int.toNat_natCast]
   refine hE (s:=s) (l:=l1) (r:=l1.getD (b+iN) d6) tk (by omega) (by omega) ?_
   refine hE (s:=s) (l:=l1.set (a+iN) (l1.getD (b+iN) d6)) (r:=l1.getD (a+iN) d6) tk (by omega) (by simp;omega) ?_
   simp only[Int.toNat_natCast]
   refine hX (n-(iN+1)) _ _ (by omega) ⟨zN l1 (a+iN) (b+iN),rfl,by dsimp only;omega,by dsimp only;omega,by dsimp only;omega,by rw[vu,hl1],(wO (by omega) (by omega)).trans hp,fun k=> ?_⟩
   dsimp only
   rw[lF (by omega) (by omega),show((iN:Int)+1).toNat=iN+1 by omega]
   by_cases h1:k=b+iN
   ·rw[if_pos h1,hg (a+iN),if_neg (by omega),if_neg (by omega),if_neg (by omega),if_pos (by omega)]
    congr 1;omega
   ·rw[if_neg h1]
    by_cases h2:k=a+iN
    ·rw[if_pos h2,hg (b+iN),if_neg (by omega),if_neg (by omega),if_pos (by omega)]
     congr 1;omega
    ·rw[if_neg h2,hg k]
     by_cases h3:a≤k∧k<a+iN
     ·rw[if_pos h3,if_pos (show a≤k∧k<a+(iN+1) by omega)]
     ·rw[if_neg h3,if_neg (show¬(a≤k∧k<a+(iN+1)) by omega)]
      by_cases h4:b≤k∧k<b+iN
      ·rw[if_pos h4,if_pos (show b≤k∧k<b+(iN+1) by omega)]
      ·rw[if_neg h4,if_neg (show¬(b≤k∧k<b+(iN+1)) by omega)]
  ·replace h:¬i<n:=of_decide_eq_false h
   rw[show i.toNat=n by omega]at hg
   exact aa (x:=()) rfl ⟨l1,rfl,hl1,hp,hg⟩ ag aB
def kZ(l:List bW)(a m b k:Nat):bW:=if a≤k∧k<a+(b-m)then l.getD (k+m-a) d6 else if a+(b-m)≤k∧k<b then l.getD (k-(b-m)) d6 else l.getD k d6
theorem sY(s:ay)(l:List bW)(a m b:Nat)(v:Value)(ham:a<m)(hmb:m<b)(hb:b≤l.length)(hl:l.length<2^40):Gl.Spec ρ Tryz.prog 227 [.slice s.a s.n s.c,i64 a,i64 m,i64 b,v] [aE s 6 (l.flatMap rc)] (.many [])
  fun _ M=>∃l':List bW,M=[aE s 6 (l'.flatMap rc)]∧l'.length=l.length∧l'.Perm l∧∀k,l'.getD k d6=kZ l a m b k:=by
 refine Spec.of (fun Q w h=>F.av.c8.calls s a m b v h) fun R=> ?_
 unfold F.av.c8
 try simp only[aq,al]
 rw[wrap64 (n:=(m:Int)-a) (by omega) (by omega),wrap64 (n:=(b:Int)-m) (by omega) (by omega)]
 refine aP (fun f u M=>(fun(i j:Int)=>∃(C:List bW) (p q:Nat),i=p∧j=q∧M=aE s 6 (C.flatMap rc)::R∧1≤p∧1≤q∧p≤m∧m+q≤b∧f=p+q∧C.length=l.length∧C.Perm l∧(∀k,(k<m-p∨m+q≤k)→C.getD k d6=kZ l a m b k)∧
  ∀k,m-p≤k→k<m+q→kZ l a m b k=if k<m-p+q then C.getD (k+p) d6 else C.getD (k-q) d6) u.1 u.2.1) ((m-a)+(b-m)) ?_ ?_
 ·refine⟨l,m-a,b-m,by dsimp only;omega,by dsimp only;omega,rfl,by omega,by omega,by omega,by omega,rfl,rfl,.refl _,fun k hk=> ?_,fun k h1 h2=> ?_⟩
  ·unfold kZ;rw[if_neg (by omega),if_neg (by omega)]
  ·unfold kZ
   by_cases h3:k<a+(b-m)
   ·rw[if_pos (by omega),if_pos (by omega)];congr 1;omega
   ·rw[if_neg (by omega),if_pos (by omega),if_neg (by omega)]
 ·rintro f ⟨(i:Int),(j:Int),⟨⟩⟩ M ⟨C,p,q,hi,hj,rfl,p1,q1,pm,qb,rfl,hC,hp,hout,hin⟩ X hX
  dsimp only at hi hj hX⊢
  subst hi hj
  rw[wrap64 (n:=(m:Int)-p) (by omega) (by omega),show(m:Int)-p=((m-p:Nat):Int) by omega]
  refine aj (fun h=> ?_) (fun h=> ?_)
  ·have h:p≠q:=by
    have h':(p:Int)≠q:=by simpa using h
    omega
   refine aj (fun h2=> ?_) (fun h2=> ?_)
   ·replace h2:(p:Int)>q:=of_decide_eq_true h2
    refine ae (lI s C (m-p) m q v (by omega) (by omega) (by omega)) ag ?_
    rintro x' M ⟨C',rfl,hC',hp',hg⟩
    try simp only[aq,al]
    rw[wrap64 (n:=(p:Int)-q) (by omega) (by omega)]
    refine hX (p-q+q) _ _ (by omega) ⟨C',p-q,q,by dsimp only;omega,rfl,rfl,by omega,q1,by omega,qb,rfl,by omega,hp'.trans hp,fun k hk=> ?_,fun k h3 h4=> ?_⟩
    ·rw[hg]
     by_cases h5:m-p≤k∧k<m-p+q
     ·rw[if_pos h5,hin k (by omega) (by omega),if_pos (by omega)];congr 1;omega
     ·rw[if_neg h5,if_neg (by omega)]
      exact hout k (by omega)
    ·rw[hin k (by omega) (by omega),if_neg (by omega)]
     by_cases h5:k<m-(p-q)+q
     ·rw[if_pos h5,hg,if_neg (by omega),if_pos (by omega)];congr 1;omega
     ·rw[if_neg h5,hg,if_neg (by omega),if_neg (by omega)]
   ·replace h2:¬(p:Int)>q:=of_decide_eq_false h2
    rw[wrap64 (n:=(m:Int)+q) (by omega) (by omega),wrap64 (n:=(m:Int)+q-p) (by omega) (by omega),show(m:Int)+q-p=((m+q-p:Nat):Int) by omega]
    refine ae (lI s C (m-p) (m+q-p) p v (by omega) (by omega) (by omega)) ag ?_
    rintro x' M ⟨C',rfl,hC',hp',hg⟩
    try simp only[aq,al]
    rw[wrap64 (n:=(q:Int)-p) (by omega) (by omega)]
    refine hX (p+(q-p)) _ _ (by omega) ⟨C',p,q-p,rfl,by dsimp only;omega,rfl,p1,by omega,pm,by omega,rfl,by omega,hp'.trans hp,fun k hk=> ?_,fun k h3 h4=> ?_⟩
    ·rw[hg]
     by_cases h5:m+q-p≤k∧k<m+q-p+p
     ·rw[if_neg (by omega),if_pos h5,hin k (by omega) (by omega),if_neg (by omega)];congr 1;omega
     ·rw[if_neg (by omega),if_neg h5]
      exact hout k (by omega)
    ·rw[hin k (by omega) (by omega),if_pos (by omega)]
     by_cases h5:k<m-p+(q-p)
     ·rw[if_pos h5,hg,if_neg (by omega),if_neg (by omega)]
     ·rw[if_neg h5,hg,if_pos (by omega)];congr 1;omega
  ·have h:p=q:=by
    have h':(p:Int)=q:=by simpa using h
    omega
   subst h
   refine ae (lI s C (m-p) m p v (by omega) (by omega) (by omega)) ag ?_
   rintro x' M ⟨C',rfl,hC',hp',hg⟩
   try simp only[aq,al]
   refine aa (x:=()) rfl ⟨C',rfl,by omega,hp'.trans hp,fun k=> ?_⟩ ag aB
   rw[hg]
   by_cases h5:m-p≤k∧k<m+p
   ·rw[hin k h5.1 h5.2]
    by_cases h6:k<m-p+p
    ·rw[if_pos h6,if_pos (by omega)];congr 1;omega
    ·rw[if_neg h6,if_neg (by omega),if_pos (by omega)];congr 1;omega
   ·rw[if_neg (by omega),if_neg (by omega)]
    exact hout k (by omega)
end Go.Proofs.YtfepdmpplahloaaGreat
namespace Go.Proofs.YtfepdmpplahloaaGreat
open Go Go.Gl
variable{ρ0 ρ:FR}{L L':List aA}{Post:Value→List aA→Prop}{T:Tree}
structure cF(a b:Nat)(l l':List bW):Prop where
 len:l'.length=l.length
 perm:l'.Perm l
 out:∀k,(k<a∨b≤k)→l'.getD k d6=l.getD k d6
 EJ:∀k,a≤k→k<b→∃c,a≤c∧c<b∧l'.getD k d6=l.getD c d6
theorem cF.refl{a b:Nat}{l:List bW}:cF a b l l:=⟨rfl,.refl _,fun _ _=>rfl,fun k h1 h2=>⟨k,h1,h2,rfl⟩⟩
theorem cF.trans{a b:Nat}{l l' l'':List bW}(h:cF a b l l')(h':cF a b l' l''):cF a b l l'':=by
 refine⟨h'.len.trans h.len,h'.perm.trans h.perm,fun k hk=>(h'.out k hk).trans (h.out k hk),fun k h1 h2=> ?_⟩
 obtain⟨c,c1,c2,e⟩:=h'.EJ k h1 h2
 obtain⟨c',c1',c2',e'⟩:=h.EJ c c1 c2
 exact⟨c',c1',c2',e.trans e'⟩
theorem cF.mono{a b a' b':Nat}{l l':List bW}(h:cF a b l l')(ha:a'≤a)(hb:b≤b'):cF a' b' l l':=by
 refine⟨h.len,h.perm,fun k hk=>h.out k (by omega),fun k h1 h2=> ?_⟩
 by_cases hk:a≤k∧k<b
 ·obtain⟨c,c1,c2,e⟩:=h.EJ k hk.1 hk.2
  exact⟨c,by omega,by omega,e⟩
 ·exact⟨k,h1,h2,h.out k (by omega)⟩
theorem cF.sw{a b i j:Nat}{l:List bW}(hi:a≤i)(hi2:i<b)(hj:a≤j)(hj2:j<b)(hb:b≤l.length):cF a b l (zN l i j):=by
 refine⟨vu,wO (by omega) (by omega),fun k hk=> ?_,fun k h1 h2=> ?_⟩
 ·rw[lF (by omega) (by omega),if_neg (by omega),if_neg (by omega)]
 ·rw[lF (by omega) (by omega)]
  split
  ·exact⟨i,hi,hi2,rfl⟩
  ·split
   ·exact⟨j,hj,hj2,rfl⟩
   ·exact⟨k,h1,h2,rfl⟩
def ew(a b:Nat)(l:List bW):Prop:=∀i j,a≤i→i<j→j<b→cD (l.getD i d6)≤cD (l.getD j d6)
def mN:Value:= .func (.func 173) #[] #[]
theorem w8(x:Int):Gl.Spec ρ Tryz.prog 202 [i64 x] [] RB fun r M=>r=false∧M=[]:=by
 refine Spec.of (fun Q w h=>F.cmp.isNaN.calls x h) fun R=> ?_
 unfold F.cmp.isNaN
 try simp only[aq,al]
 refine aa (x:=false) ?_ ⟨rfl,rfl⟩ ag aB
 simp;rfl
theorem tn(x y:Int):Gl.Spec ρ Tryz.prog 174 [i64 x,i64 y] [] R1 fun r M=>(r<0↔x<y)∧M=[]:=by
 refine Spec.of (fun Q w h=>F.cmp.Compare.calls x y h) fun R=> ?_
 unfold F.cmp.Compare
 try simp only[aq,al]
 refine ae (w8 x) ag ?_
 rintro x' M ⟨rfl,rfl⟩
 try simp only[aq,al]
 refine ae (w8 y) ag ?_
 rintro x' M ⟨rfl,rfl⟩
 try simp only[aq,al]
 refine ak rfl (ak rfl (aj (fun h=> ?_) (fun h=>aj (fun h2=> ?_) (fun h2=> ?_))))
 ·have h:x<y:=of_decide_eq_true h
  exact aa (x:=(-1:Int)) rfl ⟨⟨fun _=>h,fun _=>by decide⟩,rfl⟩ ag aB
 ·have h:¬x<y:=of_decide_eq_false h
  exact aa (x:=(1:Int)) rfl ⟨⟨fun g=>absurd g (by decide),fun g=>absurd g h⟩,rfl⟩ ag aB
 ·have h:¬x<y:=of_decide_eq_false h
  exact aa (x:=(0:Int)) rfl ⟨⟨fun g=>absurd g (by decide),fun g=>absurd g h⟩,rfl⟩ ag aB
theorem zk(x y:bW):Gl.Spec ρ Tryz.prog 173 [.agg (rc x).toArray,.agg (rc y).toArray] [] R1 fun r M=>(r<0↔cD x<cD y)∧M=[]:=by
 refine Spec.of (fun Q w h=>F.proc.sI.calls x y h) fun R=> ?_
 obtain⟨x1,x2,x3,x4,x5,x6,⟨⟩⟩:=x
 obtain⟨y1,y2,y3,y4,y5,y6,⟨⟩⟩:=y
 unfold F.proc.sI
 try simp only[aq,al]
 refine ax fun b1=>ax fun b2=> ?_
 refine ai (k:= .int .i64) (b:=b1) (off:=5) (x:=x6) (by rw[af]) tk rfl ?_
 refine ai (k:= .int .i64) (b:=b2) (off:=5) (x:=y6) (by rw[af]) tk rfl ?_
 refine ae (tn x6 y6) ag ?_
 rintro r M ⟨hr,rfl⟩
 try simp only[aq,al]
 exact aa (x:=r) rfl ⟨hr,rfl⟩ ag aB
theorem sF{x y:bW}{k:Int→Tree}(h:∀r:Int,(r<0↔cD x<cD y)→Tr ρ0 ρ L (k r) Post):Tr ρ0 ρ L (gJ Tryz.prog mN [.agg (rc x).toArray,.agg (rc y).toArray] R1 k) Post:=by
 refine iS (A:=[]) (R:=L) Tryz.func173 (by kernel_rfl) (B:=fun r M=>(r<0↔cD x<cD y)∧M=[]) (zk x y) .nil ?_
 rintro r M ⟨hr,rfl⟩
 exact h r hr
theorem oe(s:ay)(l:List bW)(a b:Nat)(hab:a≤b)(hb:b≤l.length)(hl:l.length<2^40):Gl.Spec ρ Tryz.prog 220 [.slice s.a s.n s.c,i64 a,i64 b,mN] [aE s 6 (l.flatMap rc)] (.many [])
  fun _ M=>∃l':List bW,M=[aE s 6 (l'.flatMap rc)]∧cF a b l l'∧ew a b l':=by
 refine Spec.of (fun Q w h=>F.av.bK.calls s a b mN h) fun R=> ?_
 unfold F.av.bK
 try simp only[aq,al]
 rw[wrap64 (n:=(a:Int)+1) (by omega) (by omega)]
 refine aP (fun m u M=>(fun i:Int=>∃(C:List bW) (p:Nat),i=p∧M=aE s 6 (C.flatMap rc)::R∧a+1≤p∧m=b+1-p∧cF a b l C∧(p≤b→ew a p C)∧(b<p→ew a b C)) u.1) (b-a) ?_ ?_
 ·exact⟨l,a+1,by dsimp only;omega,rfl,by omega,by omega,.refl,fun _ i j h1 h2 h3=>by omega,fun _ i j h1 h2 h3=>by omega⟩
 ·rintro m ⟨(i:Int),⟨⟩⟩ M ⟨C,p,hi,rfl,p1,rfl,hS,hs1,hs2⟩ X hX
  dsimp only at hi hX⊢
  subst hi
  refine aj (fun h=> ?_) (fun h=> ?_)
  ·replace h:(p:Int)<b:=of_decide_eq_true h
   have hs:=hs1 (by omega)
   clear hs1 hs2
   rw[wrap64 (n:=(p:Int)+1) (by omega) (by omega)]
   refine aP (fun m u M=>(fun j:Int=>∃(D:List bW) (q:Nat),j=q∧M=aE s 6 (D.flatMap rc)::R∧a≤q∧q≤p∧m=q∧cF a b l D∧∀i j,a≤i→i<j→j<p+1→j≠q→cD (D.getD i d6)≤cD (D.getD j d6)) u.1) p ?_ ?_
   ·exact⟨C,p,rfl,rfl,by omega,by omega,rfl,hS,fun i j h1 h2 h3 h4=>hs i j h1 h2 (by omega)⟩
   ·rintro m ⟨(j:Int),⟨⟩⟩ M ⟨D,q,hj,rfl,q1,q2,hmq,hD,hq⟩ Y hY
    dsimp only at hj hY⊢
    subst hj
    have hlD:=hD.len
    have done:(q=a∨cD (D.getD (q-1) d6)≤cD (D.getD q d6))→Tr ρ ρ (aE s 6 (D.flatMap rc)::R) (X ((p:Int)+1,())) (SP (.many []) (fun _ M=>∃l':List bW,M=[aE s 6 (l'.flatMap rc)]∧cF a b l l'∧ew a b l') R):=fun hc=>by
     have hsr:ew a (p+1) D:=fun i j h1 h2 h3=>by
      by_cases hjq:j=q
      ·rw[hjq]
       rcases hc with hc|hc
       ·omega
       ·by_cases hi:i=q-1
        ·rw[hi];exact hc
        ·exact Int.le_trans (hq i (q-1) h1 (by omega) (by omega) (by omega)) hc
      ·exact hq i j h1 h2 h3 hjq
     exact hX (b+1-(p+1)) _ _ (by omega) ⟨D,p+1,by dsimp only;omega,rfl,by omega,rfl,hD,fun _=>hsr,fun hp=>by omega⟩
    refine aK (aj (fun h2=> ?_) (fun h2=>done (.inl (by have:¬(q:Int)>a:=of_decide_eq_false h2;omega))))
    replace h2:(q:Int)>a:=of_decide_eq_true h2
    rw[wrap64 (n:=(q:Int)-1) (by omega) (by omega),show(q:Int)-1=((q-1:Nat):Int) by omega]
    refine gY (s:=s) (l:=D) tk (by omega) (by omega) ?_
    refine gY (s:=s) (l:=D) tk (by omega) (by omega) ?_
    simp only[Int.toNat_natCast]
    refine sF fun r hr=> ?_
    refine aj (fun h3=> ?_) (fun h3=>done (.inr (by have h3:¬r<0:=of_decide_eq_false h3;rw[hr]at h3;omega)))
    have h3:r<0:=of_decide_eq_true h3
    rw[hr]at h3
    refine aK (aR [aE s 6 (D.flatMap rc)] ag ?_)
    refine fV (s:=s) (l:=D) tk tk (by omega) (by omega) ?_
    refine fV (s:=s) (l:=D) tk tk (by omega) (by omega) ?_
    simp only[Int.toNat_natCast]
    refine hE (s:=s) (l:=D) (r:=D.getD (q-1) d6) tk (by omega) (by omega) ?_
    refine hE (s:=s) (l:=D.set q (D.getD (q-1) d6)) (r:=D.getD q d6) tk (by omega) (by simp;omega) ?_
    simp only[Int.toNat_natCast]
    refine hY (q-1) _ _ (by omega) ⟨zN D q (q-1),q-1,rfl,rfl,by omega,by omega,rfl,hD.trans (.sw (by omega) (by omega) (by omega) (by omega) (by omega)),fun i j g1 g2 g3 g4=> ?_⟩
    rw[lF (by omega) (by omega),lF (by omega) (by omega),if_neg g4]
    by_cases e1:j=q
    ·rw[if_pos e1]
     by_cases e2:i=q-1
     ·rw[if_pos e2];omega
     ·rw[if_neg e2,if_neg (by omega)]
      exact hq i (q-1) g1 (by omega) (by omega) (by omega)
    ·rw[if_neg e1]
     by_cases e2:i=q-1
     ·rw[if_pos e2];exact hq q j (by omega) (by omega) g3 e1
     ·rw[if_neg e2]
      by_cases e3:i=q
      ·rw[if_pos e3];exact hq (q-1) j (by omega) (by omega) g3 e1
      ·rw[if_neg e3];exact hq i j g1 g2 g3 e1
  ·replace h:¬(p:Int)<b:=of_decide_eq_false h
   refine aa (x:=()) rfl ⟨C,rfl,hS,?_⟩ ag aB
   by_cases hp:p≤b
   ·have:p=b:=by omega
    subst this
    exact hs1 hp
   ·exact hs2 (by omega)
theorem eb{n:Int}(h0:0≤n)(h1:n<18446744073709551616):IntKind.wrap .u64 n=n:=by
 unfold IntKind.wrap IntKind.bits IntKind.signed
 simp only[Bool.false_and,Bool.false_eq_true,if_false]
 omega
theorem half{x y:Int}{n:Nat}(hn:x+y=n)(h:n<2^42):IntKind.wrap .i64 (Int.fdiv (IntKind.wrap .u64 (IntKind.wrap .i64 (x+y))) (2^(min (1:Int).toNat (IntKind.bits .u64))))=((n/2:Nat):Int):=by
 rw[hn,wrap64 (n:=(n:Int)) (by omega) (by omega),eb (by omega) (by omega)]
 have e:(2^(min (1:Int).toNat (IntKind.bits .u64)):Int)=2:=by decide
 rw[e,Int.fdiv_eq_ediv_of_nonneg _ (by omega),wrap64 (by omega) (by omega)]
 omega
end Go.Proofs.YtfepdmpplahloaaGreat
namespace Go.Proofs.YtfepdmpplahloaaGreat
open Go Go.Gl
variable{ρ0 ρ:FR}{L L':List aA}{Post:Value→List aA→Prop}{T:Tree}
abbrev nk(s:ay)(l:List bW)(a b:Nat):RT (.many [])→List aA→Prop:=fun _ M=>∃l':List bW,M=[aE s 6 (l'.flatMap rc)]∧cF a b l l'∧ew a b l'
theorem cF.Ez{a b t m e:Nat}{l l1:List bW}(h1:a≤t)(h2:t≤m)(h3:m≤e)(h4:e≤b)(hl:l1.length=l.length)(hp:l1.Perm l)(hg:∀k,l1.getD k d6=kZ l t m e k):cF a b l l1:=by
 refine⟨hl,hp,fun k hk=> ?_,fun k k1 k2=> ?_⟩
 ·rw[hg];unfold kZ;rw[if_neg (by omega),if_neg (by omega)]
 ·rw[hg];unfold kZ
  split
  ·exact⟨k+m-t,by omega,by omega,rfl⟩
  ·split
   ·exact⟨k-(e-m),by omega,by omega,rfl⟩
   ·exact⟨k,k1,k2,rfl⟩
theorem tg(s:ay)(l:List bW)(a b:Nat)(hmb:a+1<b)(hb:b≤l.length)(hl:l.length<2^40)(h2:ew (a+1) b l):Gl.Spec ρ Tryz.prog 221 [.slice s.a s.n s.c,i64 a,i64 (a+1:Nat),i64 b,mN] [aE s 6 (l.flatMap rc)] (.many []) (nk s l a b):=by
 refine Spec.of (fun Q w h=>F.av.bx.calls s a (a+1:Nat) b mN h) fun R=> ?_
 unfold F.av.bx
 try simp only[aq,al]
 refine aH (by rw[wrap64 (by omega) (by omega)];simp;omega) ?_
 refine aP (fun f u M=>(fun(i j:Int)=>∃p q:Nat,i=p∧j=q∧M=aE s 6 (l.flatMap rc)::R∧a+1≤p∧p≤q∧q≤b∧f=q-p∧(∀k,a+1≤k→k<p→cD (l.getD k d6)<cD (l.getD a d6))∧∀k,q≤k→k<b→cD (l.getD a d6)≤cD (l.getD k d6)) u.1 u.2.1) (b-(a+1)) ?_ ?_
 ·exact⟨a+1,b,rfl,rfl,rfl,by omega,by omega,by omega,rfl,fun k g1 g2=>by omega,fun k g1 g2=>by omega⟩
 ·rintro f ⟨(i:Int),(j:Int),⟨⟩⟩ M ⟨p,q,hi,hj,rfl,p1,p2,p3,rfl,hlo,hhi⟩ X hX
  dsimp only at hi hj hX⊢
  subst hi hj
  refine aj (fun h=> ?_) (fun h=> ?_)
  ·replace h:(p:Int)<q:=of_decide_eq_true h
   rw[half (x:=p) (y:=q) (n:=p+q) (by omega) (by omega)]
   refine bu (by decide) (aK ?_)
   refine gY (s:=s) (l:=l) tk (by omega) (by omega) ?_
   refine gY (s:=s) (l:=l) tk (by omega) (by omega) ?_
   simp only[Int.toNat_natCast]
   refine sF fun r hr=> ?_
   rw[wrap64 (n:=(((p+q)/2:Nat):Int)+1) (by omega) (by omega)]
   refine aj (fun h3=> ?_) (fun h3=> ?_)
   ·have h3:r<0:=of_decide_eq_true h3
    rw[hr]at h3
    refine hX (q-((p+q)/2+1)) _ _ (by omega) ⟨(p+q)/2+1,q,by dsimp only;omega,rfl,rfl,by omega,by omega,p3,rfl,fun k g1 g2=> ?_,hhi⟩
    by_cases hk:k=(p+q)/2
    ·rw[hk];exact h3
    ·exact Int.lt_of_le_of_lt (h2 k ((p+q)/2) g1 (by omega) (by omega)) h3
   ·have h3:¬r<0:=of_decide_eq_false h3
    rw[hr]at h3
    refine hX ((p+q)/2-p) _ _ (by omega) ⟨p,(p+q)/2,rfl,rfl,rfl,p1,by omega,by omega,rfl,hlo,fun k g1 g2=> ?_⟩
    by_cases hk:k=(p+q)/2
    ·rw[hk];omega
    ·exact Int.le_trans (by omega) (h2 ((p+q)/2) k (by omega) (by omega) g2)
  ·replace h:¬(p:Int)<q:=of_decide_eq_false h
   have hpq:p=q:=by omega
   subst hpq
   clear hX
   rw[wrap64 (n:=(p:Int)-1) (by omega) (by omega)]
   refine aP (fun f u M=>(fun(k:Int)=>∃(C:List bW) (c:Nat),k=c∧M=aE s 6 (C.flatMap rc)::R∧a≤c∧c≤p-1∧f=p-c∧cF a b l C∧∀x,C.getD x d6=if a≤x∧x<c then l.getD (x+1) d6 else if x=c then l.getD a d6 else l.getD x d6) u.1) (p-a) ?_ ?_
   ·refine⟨l,a,rfl,rfl,by omega,by omega,rfl,.refl,fun x=> ?_⟩
    rw[if_neg (by omega)]
    by_cases hx:x=a
    ·rw[if_pos hx,hx]
    ·rw[if_neg hx]
   ·rintro f ⟨(k:Int),⟨⟩⟩ M ⟨C,c,hk,rfl,c1,c2,rfl,hC,hg⟩ Y hY
    dsimp only at hk hY⊢
    subst hk
    have hlC:=hC.len
    refine aj (fun h=> ?_) (fun h=> ?_)
    ·replace h:(c:Int)<(p:Int)-1:=of_decide_eq_true h
     rw[wrap64 (n:=(c:Int)+1) (by omega) (by omega),show(c:Int)+1=((c+1:Nat):Int) by omega]
     refine aK (aR [aE s 6 (C.flatMap rc)] ag ?_)
     refine fV (s:=s) (l:=C) tk tk (by omega) (by omega) ?_
     refine fV (s:=s) (l:=C) tk tk (by omega) (by omega) ?_
     simp only[Int.toNat_natCast]
     refine hE (s:=s) (l:=C) (r:=C.getD (c+1) d6) tk (by omega) (by omega) ?_
     refine hE (s:=s) (l:=C.set c (C.getD (c+1) d6)) (r:=C.getD c d6) tk (by omega) (by simp;omega) ?_
     simp only[Int.toNat_natCast]
     refine hY (p-(c+1)) _ _ (by omega) ⟨zN C c (c+1),c+1,rfl,rfl,by omega,by omega,rfl,hC.trans (.sw (by omega) (by omega) (by omega) (by omega) (by omega)),fun x=> ?_⟩
     rw[lF (by omega) (by omega)]
     by_cases e1:x=c+1
     ·rw[if_pos e1,if_neg (by omega),if_pos e1,hg c,if_neg (by omega),if_pos rfl]
     ·rw[if_neg e1]
      by_cases e2:x=c
      ·rw[if_pos e2,if_pos (by omega),hg (c+1),if_neg (by omega),if_neg (by omega),e2]
      ·rw[if_neg e2,hg x]
       by_cases e3:a≤x∧x<c
       ·rw[if_pos e3,if_pos (show a≤x∧x<c+1 by omega)]
       ·rw[if_neg e3,if_neg e2,if_neg (show¬(a≤x∧x<c+1) by omega),if_neg e1]
    ·replace h:¬(c:Int)<(p:Int)-1:=of_decide_eq_false h
     have hc:c=p-1:=by omega
     subst hc
     refine aa (x:=()) rfl ⟨C,rfl,hC,fun i j g1 g2 g3=> ?_⟩ ag aB
     rw[hg i,hg j]
     by_cases e1:i<p-1
     ·rw[if_pos ⟨g1,e1⟩]
      have hi:=hlo (i+1) (by omega) (by omega)
      by_cases e2:j<p-1
      ·rw[if_pos ⟨by omega,e2⟩];exact h2 (i+1) (j+1) (by omega) (by omega) (by omega)
      ·rw[if_neg (by omega)]
       by_cases e3:j=p-1
       ·rw[if_pos e3];omega
       ·rw[if_neg e3];exact h2 (i+1) j (by omega) (by omega) g3
     ·rw[if_neg (by omega),if_neg (show¬(a≤j∧j<p-1) by omega),if_neg (show¬j=p-1 by omega)]
      by_cases e3:i=p-1
      ·rw[if_pos e3];exact hhi j (by omega) g3
      ·rw[if_neg e3];exact h2 i j (by omega) g2 g3
theorem tF(s:ay)(l:List bW)(a m:Nat)(ham:a+1<m)(hb:m+1≤l.length)(hl:l.length<2^40)(h1:ew a m l):Gl.Spec ρ Tryz.prog 221 [.slice s.a s.n s.c,i64 a,i64 m,i64 (m+1:Nat),mN] [aE s 6 (l.flatMap rc)] (.many []) (nk s l a (m+1)):=by
 refine Spec.of (fun Q w h=>F.av.bx.calls s a m (m+1:Nat) mN h) fun R=> ?_
 unfold F.av.bx
 try simp only[aq,al]
 refine ak (by rw[wrap64 (by omega) (by omega)];simp;omega) ?_
 refine aH (by rw[wrap64 (by omega) (by omega)];simp;omega) ?_
 refine aP (fun f u M=>(fun(i j:Int)=>∃p q:Nat,i=p∧j=q∧M=aE s 6 (l.flatMap rc)::R∧a≤p∧p≤q∧q≤m∧f=q-p∧(∀k,a≤k→k<p→cD (l.getD k d6)≤cD (l.getD m d6))∧∀k,q≤k→k<m→cD (l.getD m d6)<cD (l.getD k d6)) u.1 u.2.1) (m-a) ?_ ?_
 ·exact⟨a,m,rfl,rfl,rfl,by omega,by omega,by omega,rfl,fun k g1 g2=>by omega,fun k g1 g2=>by omega⟩
 ·rintro f ⟨(i:Int),(j:Int),⟨⟩⟩ M ⟨p,q,hi,hj,rfl,p1,p2,p3,rfl,hlo,hhi⟩ X hX
  dsimp only at hi hj hX⊢
  subst hi hj
  refine aj (fun h=> ?_) (fun h=> ?_)
  ·replace h:(p:Int)<q:=of_decide_eq_true h
   rw[half (x:=p) (y:=q) (n:=p+q) (by omega) (by omega)]
   refine bu (by decide) (aK ?_)
   refine gY (s:=s) (l:=l) tk (by omega) (by omega) ?_
   refine gY (s:=s) (l:=l) tk (by omega) (by omega) ?_
   simp only[Int.toNat_natCast]
   refine sF fun r hr=> ?_
   rw[wrap64 (n:=(((p+q)/2:Nat):Int)+1) (by omega) (by omega)]
   refine aj (fun h3=> ?_) (fun h3=> ?_)
   ·have h3:¬r<0:=by simpa using h3
    rw[hr]at h3
    refine hX (q-((p+q)/2+1)) _ _ (by omega) ⟨(p+q)/2+1,q,by dsimp only;omega,rfl,rfl,by omega,by omega,p3,rfl,fun k g1 g2=> ?_,hhi⟩
    by_cases hk:k=(p+q)/2
    ·rw[hk];omega
    ·exact Int.le_trans (h1 k ((p+q)/2) g1 (by omega) (by omega)) (by omega)
   ·have h3:r<0:=by simpa using h3
    rw[hr]at h3
    refine hX ((p+q)/2-p) _ _ (by omega) ⟨p,(p+q)/2,rfl,rfl,rfl,p1,by omega,by omega,rfl,hlo,fun k g1 g2=> ?_⟩
    by_cases hk:k=(p+q)/2
    ·rw[hk];exact h3
    ·exact Int.lt_of_lt_of_le h3 (h1 ((p+q)/2) k (by omega) (by omega) g2)
  ·replace h:¬(p:Int)<q:=of_decide_eq_false h
   have hpq:p=q:=by omega
   subst hpq
   clear hX
   refine aP (fun f u M=>(fun(k:Int)=>∃(C:List bW) (c:Nat),k=c∧M=aE s 6 (C.flatMap rc)::R∧p≤c∧c≤m∧f=c∧cF a (m+1) l C∧∀x,C.getD x d6=if c<x∧x≤m then l.getD (x-1) d6 else if x=c then l.getD m d6 else l.getD x d6) u.1) m ?_ ?_
   ·refine⟨l,m,rfl,rfl,by omega,by omega,rfl,.refl,fun x=> ?_⟩
    rw[if_neg (by omega)]
    by_cases hx:x=m
    ·rw[if_pos hx,hx]
    ·rw[if_neg hx]
   ·rintro f ⟨(k:Int),⟨⟩⟩ M ⟨C,c,hk,rfl,c1,c2,hf,hC,hg⟩ Y hY
    dsimp only at hk hY⊢
    subst hk
    have hlC:=hC.len
    refine aj (fun h=> ?_) (fun h=> ?_)
    ·replace h:(c:Int)>(p:Int):=of_decide_eq_true h
     rw[wrap64 (n:=(c:Int)-1) (by omega) (by omega),show(c:Int)-1=((c-1:Nat):Int) by omega]
     refine aK (aR [aE s 6 (C.flatMap rc)] ag ?_)
     refine fV (s:=s) (l:=C) tk tk (by omega) (by omega) ?_
     refine fV (s:=s) (l:=C) tk tk (by omega) (by omega) ?_
     simp only[Int.toNat_natCast]
     refine hE (s:=s) (l:=C) (r:=C.getD (c-1) d6) tk (by omega) (by omega) ?_
     refine hE (s:=s) (l:=C.set c (C.getD (c-1) d6)) (r:=C.getD c d6) tk (by omega) (by simp;omega) ?_
     simp only[Int.toNat_natCast]
     refine hY (c-1) _ _ (by omega) ⟨zN C c (c-1),c-1,rfl,rfl,by omega,by omega,rfl,hC.trans (.sw (by omega) (by omega) (by omega) (by omega) (by omega)),fun x=> ?_⟩
     rw[lF (by omega) (by omega)]
     by_cases e1:x=c-1
     ·rw[if_pos e1,if_neg (by omega),if_pos e1,hg c,if_neg (by omega),if_pos rfl]
     ·rw[if_neg e1]
      by_cases e2:x=c
      ·rw[if_pos e2,if_pos (by omega),hg (c-1),if_neg (by omega),if_neg (by omega),e2]
      ·rw[if_neg e2,hg x]
       by_cases e3:c<x∧x≤m
       ·rw[if_pos e3,if_pos (show c-1<x∧x≤m by omega)]
       ·rw[if_neg e3,if_neg e2,if_neg (show¬(c-1<x∧x≤m) by omega),if_neg e1]
    ·replace h:¬(c:Int)>(p:Int):=of_decide_eq_false h
     have hc:c=p:=by omega
     subst hc
     refine aa (x:=()) rfl ⟨C,rfl,hC,fun i j g1 g2 g3=> ?_⟩ ag aB
     rw[hg i,hg j]
     by_cases e1:j≤c
     ·rw[if_neg (show¬(c<j∧j≤m) by omega),if_neg (show¬(c<i∧i≤m) by omega),if_neg (show¬i=c by omega)]
      by_cases e2:j=c
      ·rw[if_pos e2];exact hlo i g1 (by omega)
      ·rw[if_neg e2];exact h1 i j g1 g2 (by omega)
     ·rw[if_pos (show c<j∧j≤m by omega)]
      have hj:=hhi (j-1) (by omega) (by omega)
      by_cases e2:i≤c
      ·rw[if_neg (show¬(c<i∧i≤m) by omega)]
       by_cases e3:i=c
       ·rw[if_pos e3];omega
       ·rw[if_neg e3];exact h1 i (j-1) g1 (by omega) (by omega)
      ·rw[if_pos (show c<i∧i≤m by omega)];exact h1 (i-1) (j-1) (by omega) (by omega) (by omega)
end Go.Proofs.YtfepdmpplahloaaGreat
namespace Go.Proofs.YtfepdmpplahloaaGreat
open Go Go.Gl
variable{ρ0 ρ:FR}{L L':List aA}{Post:Value→List aA→Prop}{T:Tree}
structure vP(l l1:List bW)(a t d e b:Nat):Prop where
 same:cF a b l l1
 s1:ew a t l1
 s2:ew t d l1
 s3:ew d e l1
 s4:ew e b l1
 EN:∀x y,a≤x→x<d→d≤y→y<b→cD (l1.getD x d6)≤cD (l1.getD y d6)
theorem Dz{l l1:List bW}{a t m e d b:Nat}(g1:a≤t)(g2:t≤m)(g3:m≤e)(g4:e≤b)(gd:d=t+(e-m))(h1:ew a m l)(h2:ew m b l)
  (D1:∀x y,a≤x→x<t→e≤y→y<b→cD (l.getD x d6)≤cD (l.getD y d6)) (D2:∀x y,m≤x→x<e→t≤y→y<m→cD (l.getD x d6)≤cD (l.getD y d6))
  (hl:l1.length=l.length) (hp:l1.Perm l) (hg:∀k,l1.getD k d6=kZ l t m e k):vP l l1 a t d e b:=by
 have r1:∀k,k<t→l1.getD k d6=l.getD k d6:=fun k hk=>by rw[hg];unfold kZ;rw[if_neg (by omega),if_neg (by omega)]
 have r2:∀k,t≤k→k<d→l1.getD k d6=l.getD (k+m-t) d6:=fun k h3 h4=>by rw[hg];unfold kZ;rw[if_pos (by omega)]
 have r3:∀k,d≤k→k<e→l1.getD k d6=l.getD (k-(e-m)) d6:=fun k h3 h4=>by rw[hg];unfold kZ;rw[if_neg (by omega),if_pos (by omega)]
 have r4:∀k,e≤k→l1.getD k d6=l.getD k d6:=fun k h3=>by rw[hg];unfold kZ;rw[if_neg (by omega),if_neg (by omega)]
 refine⟨cF.Ez g1 g2 g3 g4 hl hp hg,fun i j h3 h4 h5=> ?_,fun i j h3 h4 h5=> ?_,fun i j h3 h4 h5=> ?_,fun i j h3 h4 h5=> ?_,fun x y h3 h4 h5 h6=> ?_⟩
 ·rw[r1 i (by omega),r1 j h5];exact h1 i j h3 h4 (by omega)
 ·rw[r2 i h3 (by omega),r2 j (by omega) h5];exact h2 _ _ (by omega) (by omega) (by omega)
 ·rw[r3 i h3 (by omega),r3 j (by omega) h5];exact h1 _ _ (by omega) (by omega) (by omega)
 ·rw[r4 i h3,r4 j (by omega)];exact h2 i j (by omega) h4 h5
 ·by_cases hx:x<t
  ·rw[r1 x hx]
   by_cases hy:y<e
   ·rw[r3 y h5 hy];exact h1 _ _ h3 (by omega) (by omega)
   ·rw[r4 y (by omega)];exact D1 x y h3 hx (by omega) h6
  ·rw[r2 x (by omega) h4]
   by_cases hy:y<e
   ·rw[r3 y h5 hy];exact D2 _ _ (by omega) (by omega) (by omega) (by omega)
   ·rw[r4 y (by omega)];exact h2 _ _ (by omega) (by omega) h6
theorem qk:∀(n:Nat) (s:ay) (l:List bW) (a m b:Nat) (_:a<m) (_:m<b) (_:b≤l.length) (_:l.length<2^40) (_:b-a=n) (_:ew a m l) (_:ew m b l),
  Gl.Spec ρ Tryz.prog 221 [.slice s.a s.n s.c,i64 a,i64 m,i64 b,mN] [aE s 6 (l.flatMap rc)] (.many []) (nk s l a b):=by
 intro n
 induction n using Nat.strongRecOn with
 |_ n ih=>
 intro s l a m b ham hmb hb hl hn h1 h2
 by_cases c1:m=a+1
 ·subst c1;exact tg s l a b hmb hb hl h2
 by_cases c2:b=m+1
 ·subst c2;exact tF s l a m (by omega) hb hl h1
 refine Spec.of (fun Q w h=>F.av.bx.calls s a m b mN h) fun R=> ?_
 unfold F.av.bx
 try simp only[aq,al]
 refine ak (by rw[wrap64 (by omega) (by omega)];simp;omega) ?_
 refine ak (by rw[wrap64 (by omega) (by omega)];simp;omega) ?_
 refine bu (by decide) ?_
 rw[half (x:=a) (y:=b) (n:=a+b) (by omega) (by omega)]
 obtain⟨d,hd⟩:∃d,d=(a+b)/2:=⟨_,rfl⟩
 rw[←hd,wrap64 (n:=(d:Int)+m) (by omega) (by omega),show(d:Int)+m=((d+m:Nat):Int) by omega,wrap64 (n:=((d+m:Nat):Int)-1) (by omega) (by omega),wrap64 (n:=((d+m:Nat):Int)-b) (by omega) (by omega)]
 refine od (fun(u:LTs [.int .i64,.int .i64]) M=>∃lo hi:Nat,u.1=lo∧u.2.1=hi∧M=aE s 6 (l.flatMap rc)::R∧((d<m∧lo=d+m-b∧hi=d)∨(m≤d∧lo=a∧hi=m))) ?_ ?_
 ·rintro⟨(u:Int),(v:Int),⟨⟩⟩ M ⟨lo,hi,hu,hv,rfl,hcase⟩
  dsimp only at hu hv⊢
  subst hu hv
  have hlo:a≤lo∧lo≤hi∧hi≤m:=by omega
  have hbnd:∀c,lo≤c→c<hi→m≤d+m-1-c∧d+m-1-c<b∧c<m:=fun c h3 h4=>by omega
  refine aP (fun f u M=>(fun(i j:Int)=>∃p q:Nat,i=p∧j=q∧M=aE s 6 (l.flatMap rc)::R∧lo≤p∧p≤q∧q≤hi∧f=q-p∧(∀c,lo≤c→c<p→cD (l.getD c d6)≤cD (l.getD (d+m-1-c) d6))∧∀c,q≤c→c<hi→cD (l.getD (d+m-1-c) d6)<cD (l.getD c d6)) u.1 u.2.1) (hi-lo) ?_ ?_
  ·exact⟨lo,hi,rfl,rfl,rfl,by omega,by omega,by omega,rfl,fun c g1 g2=>by omega,fun c g1 g2=>by omega⟩
  ·rintro f ⟨(i:Int),(j:Int),⟨⟩⟩ M ⟨p,q,hi',hj',rfl,p1,p2,p3,rfl,hL,hH⟩ X hX
   dsimp only at hi' hj' hX⊢
   subst hi' hj'
   refine aj (fun h=> ?_) (fun h=> ?_)
   ·replace h:(p:Int)<q:=of_decide_eq_true h
    rw[half (x:=p) (y:=q) (n:=p+q) (by omega) (by omega)]
    obtain⟨c,hc⟩:∃c,c=(p+q)/2:=⟨_,rfl⟩
    rw[←hc]
    obtain⟨b1,b2,b3⟩:=hbnd c (by omega) (by omega)
    rw[wrap64 (n:=((d+m:Nat):Int)-1-c) (by omega) (by omega),show((d+m:Nat):Int)-1-c=((d+m-1-c:Nat):Int) by omega]
    refine bu (by decide) (aK ?_)
    refine gY (s:=s) (l:=l) tk (by omega) (by omega) ?_
    refine gY (s:=s) (l:=l) tk (by omega) (by omega) ?_
    simp only[Int.toNat_natCast]
    refine sF fun r hr=> ?_
    rw[wrap64 (n:=(c:Int)+1) (by omega) (by omega)]
    refine aj (fun h3=> ?_) (fun h3=> ?_)
    ·have h3:¬r<0:=by simpa using h3
     rw[hr]at h3
     refine hX (q-(c+1)) _ _ (by omega) ⟨c+1,q,by dsimp only;omega,rfl,rfl,by omega,by omega,p3,rfl,fun c' g1 g2=> ?_,hH⟩
     by_cases hk:c'=c
     ·rw[hk];omega
     ·have i1:=h1 c' c (by omega) (by omega) (by omega)
      have i2:=h2 (d+m-1-c) (d+m-1-c') (by omega) (by omega) (hbnd c' (by omega) (by omega)).2.1
      omega
    ·have h3:r<0:=by simpa using h3
     rw[hr]at h3
     refine hX (c-p) _ _ (by omega) ⟨p,c,rfl,rfl,rfl,p1,by omega,by omega,rfl,hL,fun c' g1 g2=> ?_⟩
     by_cases hk:c'=c
     ·rw[hk];exact h3
     ·have i1:=h1 c c' (by omega) (by omega) (by omega)
      have i2:=h2 (d+m-1-c') (d+m-1-c) (hbnd c' (by omega) (by omega)).1 (by omega) (by omega)
      omega
   ·replace h:¬(p:Int)<q:=of_decide_eq_false h
    have hpq:p=q:=by omega
    subst hpq
    clear hX
    obtain⟨e,he⟩:∃e,e=d+m-p:=⟨_,rfl⟩
    rw[wrap64 (n:=((d+m:Nat):Int)-p) (by omega) (by omega),show((d+m:Nat):Int)-p=(e:Int) by omega]
    have D1:∀x y,a≤x→x<p→e≤y→y<b→cD (l.getD x d6)≤cD (l.getD y d6):=fun x y x0 x1 y0 y1=>by
     have hlp:lo<p:=by omega
     have i0:=hL (p-1) (by omega) (by omega)
     rw[show d+m-1-(p-1)=e by omega]at i0
     have i1:cD (l.getD x d6)≤cD (l.getD (p-1) d6):=by
      by_cases hx:x=p-1
      ·rw[hx];exact Int.le_refl _
      ·exact h1 x (p-1) x0 (by omega) (by omega)
     have i2:cD (l.getD e d6)≤cD (l.getD y d6):=by
      by_cases hy:y=e
      ·rw[hy];exact Int.le_refl _
      ·exact h2 e y (by omega) (by omega) y1
     omega
    have D2:∀x y,m≤x→x<e→p≤y→y<m→cD (l.getD x d6)≤cD (l.getD y d6):=fun x y x0 x1 y0 y1=>by
     have hph:p<hi:=by omega
     have i0:=hH p (by omega) hph
     rw[show d+m-1-p=e-1 by omega]at i0
     have i1:cD (l.getD x d6)≤cD (l.getD (e-1) d6):=by
      by_cases hx:x=e-1
      ·rw[hx];exact Int.le_refl _
      ·exact h2 x (e-1) x0 (by omega) (by omega)
     have i2:cD (l.getD p d6)≤cD (l.getD y d6):=by
      by_cases hy:y=p
      ·rw[hy];exact Int.le_refl _
      ·exact h1 p y (by omega) (by omega) y1
     omega
    have hgo:∀l1:List bW,l1.length=l.length→l1.Perm l→(∀k,l1.getD k d6=kZ l p m e k)→vP l l1 a p d e b:=fun l1=>Dz (by omega) (by omega) (by omega) (by omega) (by omega) h1 h2 D1 D2
    clear D1 D2 hL hH hbnd
    refine od (fun _ M=>∃l1,M=aE s 6 (l1.flatMap rc)::R∧vP l l1 a p d e b) ?_ ?_
    ·rintro _ M ⟨l1,rfl,H⟩
     have hl1:=H.same.len
     refine od (fun _ M=>∃l2,M=aE s 6 (l2.flatMap rc)::R∧cF a d l1 l2∧ew a d l2) ?_ ?_
     ·rintro _ M ⟨l2,rfl,S2,O2⟩
      have hl2:=S2.len
      have fin:∀l3,cF d b l2 l3→ew d b l3→Tr ρ ρ (aE s 6 (l3.flatMap rc)::R) (ret (.tuple #[])) (SP (.many []) (nk s l a b) R):=fun l3 S3 O3=>by
       refine aa (x:=()) rfl ⟨l3,rfl,(H.same.trans (S2.mono (Nat.le_refl _) (by omega))).trans (S3.mono (by omega) (Nat.le_refl _)),fun i j g1 g2 g3=> ?_⟩ ag aB
       by_cases e1:j<d
       ·rw[S3.out i (by omega),S3.out j (by omega)];exact O2 i j g1 g2 e1
       ·by_cases e2:i<d
        ·rw[S3.out i (by omega)]
         obtain⟨i',i0,i1,ie⟩:=S2.EJ i g1 e2
         obtain⟨j',j0,j1,je⟩:=S3.EJ j (by omega) g3
         rw[ie,je,S2.out j' (by omega)]
         exact H.EN i' j' i0 i1 j0 j1
        ·exact O3 i j (by omega) g2 g3
      have fv:(e=d∨e=b)→ew d b l2:=fun hc i j g1 g2 g3=>by
       rw[S2.out i (by omega),S2.out j (by omega)]
       rcases hc with hc|hc
       ·exact H.s4 i j (by omega) g2 g3
       ·exact H.s3 i j g1 g2 (by omega)
      refine aj (fun g=> ?_) (fun g=>fin l2 .refl (fv (.inl (by have:¬(d:Int)<e:=of_decide_eq_false g;omega))))
      replace g:(d:Int)<e:=of_decide_eq_true g
      refine aj (fun g'=> ?_) (fun g'=>fin l2 .refl (fv (.inr (by have:¬(e:Int)<b:=of_decide_eq_false g';omega))))
      replace g':(e:Int)<b:=of_decide_eq_true g'
      refine ae (ih (b-d) (by omega) s l2 d e b (by omega) (by omega) (by omega) (by omega) rfl (fun i j k1 k2 k3=>by rw[S2.out i (by omega),S2.out j (by omega)];exact H.s3 i j k1 k2 k3) (fun i j k1 k2 k3=>by rw[S2.out i (by omega),S2.out j (by omega)];exact H.s4 i j k1 k2 k3)) ag ?_
      rintro x' M ⟨l3,rfl,S3,O3⟩
      try simp only[aq,al]
      exact fin l3 S3 O3
     ·intro J hJ
      have fv:(p=a∨p=d)→ew a d l1:=fun hc i j g1 g2 g3=>by
       rcases hc with hc|hc
       ·exact H.s2 i j (by omega) g2 g3
       ·exact H.s1 i j g1 g2 (by omega)
      refine aj (fun g=> ?_) (fun g=>hJ _ _ ⟨l1,rfl,.refl,fv (.inl (by have:¬(a:Int)<p:=of_decide_eq_false g;omega))⟩)
      replace g:(a:Int)<p:=of_decide_eq_true g
      refine aj (fun g'=> ?_) (fun g'=>hJ _ _ ⟨l1,rfl,.refl,fv (.inr (by have:¬(p:Int)<d:=of_decide_eq_false g';omega))⟩)
      replace g':(p:Int)<d:=of_decide_eq_true g'
      refine ae (ih (d-a) (by omega) s l1 a p d (by omega) (by omega) (by omega) (by omega) rfl H.s1 H.s2) ag ?_
      rintro x' M ⟨l2,rfl,S2,O2⟩
      try simp only[aq,al]
      exact hJ _ _ ⟨l2,rfl,S2,O2⟩
    ·intro J hJ
     have stay:(p=m∨e=m)→∀k,l.getD k d6=kZ l p m e k:=fun hc k=>by
      unfold kZ
      split
      ·congr 1;omega
      ·split
       ·congr 1;omega
       ·rfl
     refine aj (fun g=> ?_) (fun g=>hJ _ _ ⟨l,rfl,hgo l rfl (.refl _) (stay (.inl (by have:¬(p:Int)<m:=of_decide_eq_false g;omega)))⟩)
     replace g:(p:Int)<m:=of_decide_eq_true g
     refine aj (fun g'=> ?_) (fun g'=>hJ _ _ ⟨l,rfl,hgo l rfl (.refl _) (stay (.inr (by have:¬(m:Int)<e:=of_decide_eq_false g';omega)))⟩)
     replace g':(m:Int)<e:=of_decide_eq_true g'
     refine ae (sY s l p m e mN (by omega) (by omega) (by omega) (by omega)) ag ?_
     rintro x' M ⟨l1,rfl,q1,q2,q3⟩
     try simp only[aq,al]
     exact hJ _ _ ⟨l1,rfl,hgo l1 q1 q2 q3⟩
 ·intro J hJ
  refine aj (fun h=> ?_) (fun h=> ?_)
  ·replace h:(m:Int)>d:=of_decide_eq_true h
   exact hJ _ _ ⟨d+m-b,d,(show((d+m:Nat):Int)-b=((d+m-b:Nat):Int) by omega),rfl,rfl,.inl ⟨by omega,rfl,rfl⟩⟩
  ·replace h:¬(m:Int)>d:=of_decide_eq_false h
   exact hJ _ _ ⟨a,m,rfl,rfl,rfl,.inr ⟨by omega,rfl,rfl⟩⟩
end Go.Proofs.YtfepdmpplahloaaGreat
namespace Go.Proofs.YtfepdmpplahloaaGreat
open Go Go.Gl
variable{ρ0 ρ:FR}{L L':List aA}{Post:Value→List aA→Prop}{T:Tree}
theorem mU{w x a:Nat}(hx:w∣x)(ha:w∣a)(h:x<a):x+w≤a:=by
 obtain⟨k,rfl⟩:=hx
 obtain⟨j,rfl⟩:=ha
 have hkj:k<j:=Nat.lt_of_mul_lt_mul_left h
 have:=Nat.mul_le_mul_left w (show k+1≤j by omega)
 rw[Nat.mul_add,Nat.mul_one]at this
 exact this
theorem cF.Ev{a b x y:Nat}{l l':List bW}(h:cF a b l l')(hs:ew x y l)(hd:y≤a∨b≤x):ew x y l':=fun i j h1 h2 h3=>by
 rw[h.out i (by omega),h.out j (by omega)];exact hs i j h1 h2 h3
theorem sZ(s:ay)(l:List bW)(n:Nat)(hn:n=l.length)(hl:l.length<2^40):Gl.Spec ρ Tryz.prog 204 [.slice s.a s.n s.c,i64 n,mN] [aE s 6 (l.flatMap rc)] (.many []) (nk s l 0 n):=by
 refine Spec.of (fun Q w h=>F.av.cY.calls s n mN h) fun R=> ?_
 unfold F.av.cY
 try simp only[aq,al]
 refine aP (fun f u M=>(fun(i j:Int)=>∃(C:List bW) (a:Nat),i=a∧j=(a+20:Nat)∧M=aE s 6 (C.flatMap rc)::R∧a≤n∧f=n-a∧20∣a∧cF 0 n l C∧∀x,20∣x→x<a→ew x (x+20) C) u.1 u.2.1) n ?_ ?_
 ·exact⟨l,0,rfl,rfl,rfl,by omega,rfl,by omega,.refl,fun x _ hx=>by omega⟩
 ·rintro f ⟨(i:Int),(j:Int),⟨⟩⟩ M ⟨C,a,hi,hj,rfl,a1,rfl,ha,hS,hB⟩ X hX
  dsimp only at hi hj hX⊢
  subst hi hj
  have hlC:=hS.len
  refine aj (fun h=> ?_) (fun h=> ?_)
  ·replace h:((a+20:Nat):Int)≤n:=of_decide_eq_true h
   refine ae (oe s C a (a+20) (by omega) (by omega) (by omega)) ag ?_
   rintro x' M ⟨D,rfl,S2,O2⟩
   try simp only[aq,al]
   rw[wrap64 (n:=((a+20:Nat):Int)+20) (by omega) (by omega)]
   refine hX (n-(a+20)) _ _ (by omega) ⟨D,a+20,rfl,by dsimp only;omega,rfl,by omega,rfl,by omega,hS.trans (S2.mono (by omega) (by omega)),fun x hx hlt=> ?_⟩
   by_cases hxa:x=a
   ·rw[hxa];exact O2
   ·exact S2.Ev (hB x hx (by omega)) (.inl (by omega))
  ·replace h:¬((a+20:Nat):Int)≤n:=of_decide_eq_false h
   clear hX
   refine ae (oe s C a n (by omega) (by omega) (by omega)) ag ?_
   rintro x' M ⟨D,rfl,S2,O2⟩
   try simp only[aq,al]
   have hS2:=hS.trans (S2.mono (Nat.zero_le _) (Nat.le_refl _))
   have hB2:∀x,20∣x→ew x (min (x+20) n) D:=fun x hx=>by
    rcases Nat.lt_trichotomy x a with c|c|c
    ·rw[Nat.min_eq_left (by omega)];exact S2.Ev (hB x hx c) (.inl (by omega))
    ·rw[c,Nat.min_eq_right (by omega)];exact O2
    ·intro i j g1 g2 g3;omega
   clear hS hB S2 O2 hlC
   refine aP (fun f u M=>(fun(i:Int)=>∃(C:List bW) (bs:Nat),i=bs∧M=aE s 6 (C.flatMap rc)::R∧1≤bs∧bs≤2^41∧f=2^42-bs∧cF 0 n l C∧∀x,bs∣x→ew x (min (x+bs) n) C) u.1) (2^42-20) ?_ ?_
   ·exact⟨D,20,rfl,rfl,by omega,by omega,rfl,hS2,hB2⟩
   ·clear hB2 hS2 D h ha a1 a C
    rintro f ⟨(i:Int),⟨⟩⟩ M ⟨C,bs,hi,rfl,b1,b2,rfl,hS,hB⟩ X hX
    dsimp only at hi hX⊢
    subst hi
    refine aj (fun h=> ?_) (fun h=> ?_)
    ·replace h:(bs:Int)<n:=of_decide_eq_true h
     rw[wrap64 (n:=2*(bs:Int)) (by omega) (by omega),wrap64 (n:=(bs:Int)*2) (by omega) (by omega)]
     refine aP (fun f u M=>(fun(i j:Int)=>∃(C:List bW) (a:Nat),i=a∧j=(a+2*bs:Nat)∧M=aE s 6 (C.flatMap rc)::R∧a≤n∧f=n-a∧2*bs∣a∧cF 0 n l C∧(∀x,2*bs∣x→x<a→ew x (x+2*bs) C)∧∀x,bs∣x→a≤x→ew x (min (x+bs) n) C) u.1 u.2.1) n ?_ ?_
     ·exact⟨C,0,rfl,by dsimp only;omega,rfl,by omega,rfl,Nat.dvd_zero _,hS,fun x _ hx=>by omega,fun x hx _=>hB x hx⟩
     ·clear hB hS C
      rintro f ⟨(i:Int),(j:Int),⟨⟩⟩ M ⟨C,a,hi,hj,rfl,a1,rfl,ha,hS,hB,hB'⟩ Y hY
      dsimp only at hi hj hY⊢
      subst hi hj
      have hlC:=hS.len
      have hba:bs∣a:=Nat.dvd_trans (Nat.dvd_mul_left bs 2) ha
      have hba2:bs∣a+bs:=(Nat.dvd_add_iff_right hba).mp (Nat.dvd_refl _)
      rw[wrap64 (n:=(a:Int)+bs) (by omega) (by omega),show(a:Int)+bs=((a+bs:Nat):Int) by omega]
      refine aj (fun h2=> ?_) (fun h2=> ?_)
      ·replace h2:((a+2*bs:Nat):Int)≤n:=of_decide_eq_true h2
       have o1:=hB' a hba (Nat.le_refl _)
       have o2:=hB' (a+bs) hba2 (by omega)
       rw[Nat.min_eq_left (by omega)]at o1 o2
       rw[show a+bs+bs=a+2*bs by omega]at o2
       refine ae (qk (a+2*bs-a) s C a (a+bs) (a+2*bs) (by omega) (by omega) (by omega) (by omega) rfl o1 o2) ag ?_
       rintro x' M ⟨D,rfl,S2,O2⟩
       try simp only[aq,al]
       rw[wrap64 (n:=((a+2*bs:Nat):Int)+2*bs) (by omega) (by omega)]
       refine hY (n-(a+2*bs)) _ _ (by omega) ⟨D,a+2*bs,rfl,by dsimp only;omega,rfl,by omega,rfl,(Nat.dvd_add_iff_right ha).mp (Nat.dvd_refl _),hS.trans (S2.mono (by omega) (by omega)),fun x hx hlt=> ?_,fun x hx hle=>S2.Ev (hB' x hx (by omega)) (.inr hle)⟩
       rcases Nat.lt_trichotomy x a with c|c|c
       ·exact S2.Ev (hB x hx c) (.inl (mU hx ha c))
       ·rw[c];exact O2
       ·have:=mU ha hx c;omega
      ·replace h2:¬((a+2*bs:Nat):Int)≤n:=of_decide_eq_false h2
       have out:∀D:List bW,cF a n C D→ew a n D→Tr ρ ρ (aE s 6 (D.flatMap rc)::R) (X ((bs:Int)*2,())) (SP (.many []) (nk s l 0 n) R):=fun D S2 O2=>by
        refine hX (2^42-bs*2) _ _ (by omega) ⟨D,bs*2,by dsimp only;omega,rfl,by omega,by omega,rfl,hS.trans (S2.mono (Nat.zero_le _) (Nat.le_refl _)),fun x hx=> ?_⟩
        rw[Nat.mul_comm]at hx
        rcases Nat.lt_trichotomy x a with c|c|c
        ·have:=mU hx ha c
         rw[Nat.min_eq_left (by omega),Nat.mul_comm];exact S2.Ev (hB x hx c) (.inl this)
        ·subst c
         rw[Nat.min_eq_right (by omega)];exact O2
        ·have:=mU ha hx c
         intro i j g1 g2 g3;omega
       have o1:=hB' a hba (Nat.le_refl _)
       refine aj (fun h3=> ?_) (fun h3=> ?_)
       ·replace h3:((a+bs:Nat):Int)<n:=of_decide_eq_true h3
        have o2:=hB' (a+bs) hba2 (by omega)
        rw[Nat.min_eq_left (by omega)]at o1
        rw[Nat.min_eq_right (by omega)]at o2
        refine ae (qk (n-a) s C a (a+bs) n (by omega) (by omega) (by omega) (by omega) rfl o1 o2) ag ?_
        rintro x' M ⟨D,rfl,S2,O2⟩
        try simp only[aq,al]
        exact out D S2 O2
       ·replace h3:¬((a+bs:Nat):Int)<n:=of_decide_eq_false h3
        rw[Nat.min_eq_right (by omega)]at o1
        exact out C .refl o1
    ·replace h:¬(bs:Int)<n:=of_decide_eq_false h
     have o:=hB 0 (Nat.dvd_zero _)
     rw[Nat.zero_add,Nat.min_eq_right (by omega)]at o
     exact aa (x:=()) rfl ⟨C,rfl,hS,o⟩ ag aB
theorem tb(s:ay)(l:List bW)(hl:l.length<2^40):Gl.Spec ρ Tryz.prog 172 [.slice s.a s.n s.c,mN] [aE s 6 (l.flatMap rc)] (.many []) fun _ M=>∃l':List bW,M=[aE s 6 (l'.flatMap rc)]∧l'.Perm l∧ew 0 l.length l':=by
 refine Spec.of (fun Q w h=>F.av.ed.calls s mN h) fun R=> ?_
 unfold F.av.ed
 try simp only[aq,al]
 refine pT (s:=s) (l:=l) tk fun hn=> ?_
 refine ae (sZ s l s.n hn hl) ag ?_
 rintro x' M ⟨l',rfl,hS,hO⟩
 try simp only[aq,al]
 rw[hn]at hO
 exact aa (x:=()) rfl ⟨l',rfl,hS.perm,hO⟩ ag aB
end Go.Proofs.YtfepdmpplahloaaGreat
