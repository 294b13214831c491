/- Obj Obj2 Obj3 Obj4 Law. -/
import Derived.Test.YtfepdmpplahloaaGreatGsSpace8
set_option linter.unusedSimpArgs false
set_option linter.unusedVariables false
namespace Go.Proofs.YtfepdmpplahloaaGreat
open Go Go.Gl
variable{ρ0 ρ:FR}{L L':List aA}{Post:Value→List aA→Prop}{T:Tree}
def Sp.AX(x:Int):Hd:=⟨Int.tmod x 8,Int.tdiv (Int.tmod x 65536) 16,Int.tdiv x 65536,Int.tmod (Int.tdiv x 8) 2==1⟩
theorem Sp.gN{h:Hd}(hm:Sp.cC h=true):Sp.AX (Sp.dJ h)=h:=by
 obtain⟨g1,g2,g3,g4,_⟩:=Sp.s9 hm
 unfold Sp.AX
 rw[g1,g2,g3,g4]
structure aO(S:aD)(cs:List aS):Prop where
 wf:Wf S
 obj:∀n w:Nat,Sp.find S n=some (n,w)→∃h:Hd,Sp.cC h=true∧S.ws.getD n 0=Sp.dJ h∧h.n+1≤(w:Int)
 cls:cs.length≤256
 refs:∀c∈cs,c.2.length≤2^20
def au(p:Nat)(S:aD)(cs:List aS):aA:=fun h=>∃i:Nat×Nat,star [aw p [.pointer (some ⟨i.1,0,none⟩),.pointer (some ⟨i.2,0,none⟩)],aF i.1 S,bz i.2 cs] h
theorem au.op{p:Nat}{S:aD}{cs:List aS}(t:Take L (au p S cs) L')(h:∀ps pt:Nat,Tr ρ0 ρ (aw p [.pointer (some ⟨ps,0,none⟩),.pointer (some ⟨pt,0,none⟩)]::aF ps S::bz pt cs::L') T Post):Tr ρ0 ρ L T Post:=
 Tr.gh (M:=fun i:Nat×Nat=>[aw p [.pointer (some ⟨i.1,0,none⟩),.pointer (some ⟨i.2,0,none⟩)],aF i.1 S,bz i.2 cs]) (c:=fun _=>True) t (fun _ ⟨i,h⟩=>⟨i,trivial,h⟩) fun i _=>h i.1 i.2
theorem au.cl{p ps pt:Nat}{S:aD}{cs:List aS}(h:HP)(H:star [aw p [.pointer (some ⟨ps,0,none⟩),.pointer (some ⟨pt,0,none⟩)],aF ps S,bz pt cs] h):au p S cs h:=⟨(ps,pt),H⟩
theorem vI(n:Int)(h0:1≤n)(h1:n≤256):Gl.Spec ρ Tryz.prog 34 [i64 n] [] PE
  fun r M=>∃b,r=(some ⟨b,0,none⟩,0,())∧M=[au b (Sp.bB n.toNat) []]:=by
 refine Spec.of (fun Q w h=>F.object.dc.calls n h) fun R=> ?_
 unfold F.object.dc
 try simp only[aq,al]
 refine ae (xx n h0 h1) ag ?_
 rintro x M ⟨ps,rfl,rfl⟩
 try simp only[aq,al]
 refine ak rfl ?_
 refine ae (xB) ag ?_
 rintro x M ⟨pt,rfl,rfl⟩
 try simp only[aq,al]
 refine ax fun b=> ?_
 refine Tr.close (M:=[aw b [.pointer (some ⟨ps,0,none⟩),.pointer (some ⟨pt,0,none⟩)],aF ps (Sp.bB n.toNat),bz pt []]) ag (au.cl (p:=b)) ?_
 exact aa (x:=(some ⟨b,0,none⟩,0,())) rfl ⟨b,rfl,rfl⟩ ag aB
def Sp.fP(cs:List aS)(c:Int):Option aS:=if 1≤c∧c≤cs.length then cs[(c-1).toNat]? else none
theorem Sp.jl{cs:List aS}{c:Int}{x:aS}(h:Sp.fP cs c=some x):∃i:Nat,c=i+1∧cs[i]? =some x:=by
 unfold Sp.fP at h
 split at h
 ·exact⟨(c-1).toNat,by omega,h⟩
 ·cases h
theorem Sp.pO{cs:List aS}{c:Int}(h:Sp.fP cs c=none):¬(1≤c∧c≤cs.length):=by
 intro hc
 unfold Sp.fP at h
 rw[if_pos hc,List.getElem?_eq_none_iff]at h
 omega
def Ob.may(cs:List aS)(h:Hd):Int:=
 if Sp.cC h=false∨h.f=true then 1 else if h.k≠1 then 0 else
  match Sp.fP cs h.c with |some c=>if c.1≠h.n then 1 else 0|none=>2
theorem De:zc Tryz.prog 141=[.int .i64 0,.slice none 0 0]:=by kernel_rfl
theorem Dw:zc Tryz.prog 103=[.int .i64 0,.int .i64 0,.int .i64 0,.bool false]:=by kernel_rfl
theorem vl(p:Nat)(S:aD)(cs:List aS)(hw:aO S cs)(h:Hd):Gl.Spec ρ Tryz.prog 156 [.pointer (some ⟨p,0,none⟩),lX h] [au p S cs] R1
  fun r M=>r=Ob.may cs h∧M=[au p S cs]:=by
 have qs:=hw.cls
 refine Spec.of (fun Q w hh=>F.object.ch.may.calls (some ⟨p,0,none⟩) h.t hh) fun R=> ?_
 obtain⟨k,c,n,f⟩:=h
 unfold F.object.ch.may
 try simp only[aq,al]
 refine ax fun b1=> ?_
 refine bD (b:=b1) (x:=(k,c,n,f,())) [] rfl tk rfl ?_
 refine ae (tq ⟨k,c,n,f⟩) ag ?_
 rintro x M ⟨rfl,rfl⟩
 try simp only[aq,al]
 refine aj (fun h1=> ?_) (fun h1=> ?_)
 ·have h1:Sp.cC ⟨k,c,n,f⟩=false:=by simpa using h1
  have e:Ob.may cs ⟨k,c,n,f⟩=1:=by unfold Ob.may;rw[if_pos (.inl h1)]
  rw[e]
  exact aa (x:=(1:Int)) rfl ⟨rfl,rfl⟩ ag aB
 ·have h1:Sp.cC ⟨k,c,n,f⟩=true:=by simpa using h1
  refine ai (k:= .bool) (x:=f) (by rw[af]) tk rfl ?_
  refine aj (fun h2=> ?_) (fun h2=> ?_)
  ·have e:Ob.may cs ⟨k,c,n,f⟩=1:=by unfold Ob.may;rw[if_pos (.inr h2)]
   rw[e]
   exact aa (x:=(1:Int)) rfl ⟨rfl,rfl⟩ ag aB
  ·refine ai (k:= .int .i64) (x:=k) (by rw[af]) tk rfl ?_
   have e0:Ob.may cs ⟨k,c,n,f⟩=if k≠1 then 0 else match Sp.fP cs c with |some c=>if c.1≠n then 1 else 0|none=>2:=by
    unfold Ob.may;rw[if_neg (by rintro(h|h)<;>first |(rw[h1]at h;cases h)|(rw[h2]at h;cases h))]
   refine aj (fun h3=> ?_) (fun h3=> ?_)
   ·have h3:k≠1:=by simpa using h3
    rw[e0,if_pos h3]
    exact aa (x:=(0:Int)) rfl ⟨rfl,rfl⟩ ag aB
   ·have h3:¬k≠1:=by simpa using h3
    rw[if_neg h3]at e0
    refine au.op tk fun ps pt=> ?_
    refine aK (aR [aw p [.pointer (some ⟨ps,0,none⟩),.pointer (some ⟨pt,0,none⟩)],aw b1 [.int .i64 k,.int .i64 c,.int .i64 n,.bool f]] ag ?_)
    refine ah (ar (k:= .ptr) (x:=some ⟨pt,0,none⟩) (by rw[af]) tk rfl ?_)
    refine ar (k:= .int .i64) (b:=b1) (x:=c) (by rw[af]) tk rfl ?_
    cases hc:Sp.fP cs c with
    |none=>
     rw[hc]at e0
     rw[e0]
     have hcn:=Sp.pO hc
     refine fb ?_ ?_
     ·refine ae (dG pt cs c hcn) ag ?_
      rintro x M ⟨rfl,rfl⟩
      try simp only[aq,al]
      first |refine aN ag ?_|skip
      refine ax fun b2=> ?_
      rw[De]
      first |refine aN ag ?_|skip
      refine aL (b:=b2) (off:=0) rfl tk (by simp) rfl ?_
      first |refine aN ag ?_|skip
      refine aH rfl ?_
      refine Tr.close ag (au.cl (p:=p) (ps:=ps) (pt:=pt) (S:=S) (cs:=cs)) ?_
      exact aa (x:=(2:Int)) rfl ⟨rfl,rfl⟩ ag aB
     ·refine ax fun b2=> ?_
      rw[De]
      first |refine aN ag ?_|skip
      refine ae (dG pt cs c hcn) ag ?_
      rintro x M ⟨rfl,rfl⟩
      try simp only[aq,al]
      first |refine aN ag ?_|skip
      refine aL (b:=b2) (off:=0) rfl tk (by simp) rfl ?_
      first |refine aN ag ?_|skip
      refine aH rfl ?_
      refine Tr.close ag (au.cl (p:=p) (ps:=ps) (pt:=pt) (S:=S) (cs:=cs)) ?_
      exact aa (x:=(2:Int)) rfl ⟨rfl,rfl⟩ ag aB
    |some cl=>
     rw[hc]at e0
     dsimp only at e0
     rw[e0]
     obtain⟨i,rfl,hci⟩:=Sp.jl hc
     have hrl:=hw.refs cl (List.mem_of_getElem? hci)
     have fin:∀{ρ':FR} {L:List aA} (b2:Nat) (q:ay) (_:Le ρ ρ') (_:∃L2,aI L [aw b2 [.int .i64 cl.1,.slice q.a q.n q.c],aw b1 [.int .i64 k,.int .i64 (i+1),.int .i64 n,.bool f],aw p [.pointer (some ⟨ps,0,none⟩),.pointer (some ⟨pt,0,none⟩)],aF ps S,bz pt cs] L2∧Gl.Ends L2 R),
       Tr ρ ρ' L (Bl (.int .i64) (fa ⟨b2,0,none⟩ 0) fun x12:Int=>Bl (.int .i64) (fa ⟨b1,0,none⟩ 2) fun x13:Int=>br (x12 != x13) (ret (.int .i64 1)) (ret (.int .i64 0))) (SP R1 (fun r M=>r=(if cl.1≠n then 1 else 0)∧M=[au p S cs]) R):=by
      rintro ρ' L b2 q hle ⟨L2,ht,he⟩
      refine Tr.perm ht.perm ?_
      try simp only[aq,al]
      refine ai (k:= .int .i64) (b:=b2) (x:=cl.1) (by rw[af]) tk rfl ?_
      refine ai (k:= .int .i64) (b:=b1) (x:=n) (by rw[af]) tk rfl ?_
      refine Tr.close ag (au.cl (p:=p) (ps:=ps) (pt:=pt) (S:=S) (cs:=cs)) ?_
      refine aj (fun h5=> ?_) (fun h5=> ?_)
      ·rw[if_pos (by simpa using h5)]
       exact aa (x:=(1:Int)) rfl ⟨rfl,rfl⟩ ag (.skip (.skip he))
      ·rw[if_neg (by simpa using h5)]
       exact aa (x:=(0:Int)) rfl ⟨rfl,rfl⟩ ag (.skip (.skip he))
     refine fb ?_ ?_
     ·refine ae (fU pt cs i cl hci qs (by omega)) ag ?_
      rintro x M ⟨q,rfl,hq,rfl⟩
      try simp only[aq,al]
      first |refine aN ag ?_|skip
      refine ax fun b2=> ?_
      rw[De]
      first |refine aN ag ?_|skip
      refine aL (b:=b2) (off:=0) rfl tk (by simp) rfl ?_
      first |refine aN ag ?_|skip
      refine ak rfl ?_
      exact fin b2 q (Le.refl _) ⟨_,ag,aB⟩
     ·refine ax fun b2=> ?_
      rw[De]
      first |refine aN ag ?_|skip
      refine ae (fU pt cs i cl hci qs (by omega)) ag ?_
      rintro x M ⟨q,rfl,hq,rfl⟩
      try simp only[aq,al]
      first |refine aN ag ?_|skip
      refine aL (b:=b2) (off:=0) rfl tk (by simp) rfl ?_
      first |refine aN ag ?_|skip
      refine ak rfl ?_
      exact fin b2 q (Le.refl _) ⟨_,ag,aB⟩
end Go.Proofs.YtfepdmpplahloaaGreat
namespace Go.Proofs.YtfepdmpplahloaaGreat
open Go Go.Gl
variable{ρ0 ρ:FR}{L L':List aA}{Post:Value→List aA→Prop}{T:Tree}
theorem kh(ps:Nat)(S:aD)(a x:Int){T:Tree}{k:Int→Tree}(ha:0≤a∧a<S.ws.length)(t:Take L (aF ps S) L')
  (h:Tr ρ0 ρ (aF ps ⟨S.ws.set a.toNat x,S.pg⟩::L') (k 0) Post):
  Tr ρ0 ρ L (nn (some ⟨ps,0,none⟩) fun a3=>Bl .ptr (fa a3 0) fun x4:Option Addr=>call Tryz.prog 125 [.pointer x4,.int .i64 a,.int .i64 x] R1 k) Post:=by
 refine Tr.take t ?_
 refine ah (aF.op .here fun pa pp ms ml ls ll hS hL nS nL=> ?_)
 refine ai (k:= .ptr) (x:=some ⟨pa,0,none⟩) (by rw[af]) tk rfl ?_
 refine ae (um pa S.ws a x) ag ?_
 rintro r M ⟨rfl,rfl⟩
 try simp only[aq,al]
 have e1:Sp.lB S.ws a=0:=by unfold Sp.lB;rw[if_pos ha]
 have e2:Sp.store S.ws a x=S.ws.set a.toNat x:=by unfold Sp.store;rw[if_pos ha]
 rw[e1,e2]
 refine Tr.close ag (aF.cl (p:=ps) (pa:=pa) (pp:=pp) (ms:=ms) (ml:=ml) (S:=⟨S.ws.set a.toNat x,S.pg⟩) hS hL) ?_
 exact h
theorem oX(ps:Nat)(S:aD)(a:Int){k:RT P2→Tree}(ha:0≤a∧a<S.ws.length)(t:Take L (aF ps S) L')
  (h:Tr ρ0 ρ (aF ps S::L') (k (S.ws.getD a.toNat 0,0,())) Post):
  Tr ρ0 ρ L (nn (some ⟨ps,0,none⟩) fun a3=>Bl .ptr (fa a3 0) fun x4:Option Addr=>call Tryz.prog 103 [.pointer x4,.int .i64 a] P2 k) Post:=by
 refine Tr.take t ?_
 refine ah (aF.op .here fun pa pp ms ml ls ll hS hL nS nL=> ?_)
 refine ai (k:= .ptr) (x:=some ⟨pa,0,none⟩) (by rw[af]) tk rfl ?_
 refine ae (vV pa S.ws a) ag ?_
 rintro r M ⟨rfl,rfl⟩
 try simp only[aq,al]
 have e1:Sp.load S.ws a=(S.ws.getD a.toNat 0,0,()):=by unfold Sp.load;rw[if_pos ha]
 rw[e1]
 refine Tr.close ag (aF.cl (p:=ps) (pa:=pa) (pp:=pp) (ms:=ms) (ml:=ml) hS hL) ?_
 exact h
theorem Sp.p6{S:aD}(hw:Wf S){w:Int}(h:(Sp.alloc S w).2.1=0):∃a n:Nat,(Sp.alloc S w).1=a∧Sp.aw w=n∧2≤n∧n≤1024∧a+n≤S.ws.length∧(Sp.alloc S w).2.2.ws=Sp.eJ S.ws a n∧(Sp.alloc S w).2.2.ws.length=S.ws.length:=by
 unfold Sp.alloc at h⊢
 split at h
 ·cases h
 ·rename_i hb
  rw[if_neg hb]
  split at h
  ·rename_i h0
   rw[if_pos h0]
   rcases Sp.ny hw hb with hp|⟨_,a,n,ha,hn,n1,n2,n3⟩
   ·rw[hp]at h0;cases h0
   ·refine⟨a,n,ha,hn,n1,n2,n3,by dsimp only;rw[ha,hn,Int.toNat_natCast,Int.toNat_natCast],?_⟩
    dsimp only;rw[ha,hn,Int.toNat_natCast,Int.toNat_natCast];exact lY n3
  ·rename_i h0;exact absurd h h0
theorem Sp.xr{S:aD}{w:Int}(h:(Sp.alloc S w).2.1≠0):(Sp.alloc S w).2.2=S:=by
 unfold Sp.alloc at h⊢
 split
 ·rfl
 ·rename_i hb
  rw[if_neg hb]at h
  split
  ·rename_i h0;rw[if_pos h0]at h;exact absurd rfl h
  ·rfl
def Ob.make(S:aD)(cs:List aS)(h:Hd):Int×Int×aD:=
 if Ob.may cs h≠0 then(0,Ob.may cs h,S)
 else if(Sp.alloc S (h.n+1)).2.1≠0 then(0,(Sp.alloc S (h.n+1)).2.1,S)
 else((Sp.alloc S (h.n+1)).1,0,⟨(Sp.alloc S (h.n+1)).2.2.ws.set (Sp.alloc S (h.n+1)).1.toNat (Sp.dJ h),(Sp.alloc S (h.n+1)).2.2.pg⟩)
theorem Ob.jD{cs:List aS}{h:Hd}(hm:Ob.may cs h=0):Sp.cC h=true∧h.f=false:=by
 unfold Ob.may at hm
 split at hm
 ·cases hm
 ·rename_i hc
  constructor
  ·cases hh:Sp.cC h with
   |true=>rfl
   |false=>exact absurd (.inl hh) hc
  ·cases hh:h.f with
   |false=>rfl
   |true=>exact absurd (.inr hh) hc
theorem oc(p:Nat)(S:aD)(cs:List aS)(hw:aO S cs)(h:Hd):Gl.Spec ρ Tryz.prog 120 [.pointer (some ⟨p,0,none⟩),lX h] [au p S cs] P2
  fun r M=>r=((Ob.make S cs h).1,(Ob.make S cs h).2.1,())∧M=[au p (Ob.make S cs h).2.2 cs]:=by
 refine Spec.of (fun Q w hh=>F.object.ch.Make.calls (some ⟨p,0,none⟩) h.t hh) fun R=> ?_
 obtain⟨k,c,n,f⟩:=h
 unfold F.object.ch.Make
 try simp only[aq,al]
 refine ax fun b1=> ?_
 refine ak rfl ?_
 refine bD (b:=b1) (x:=(k,c,n,f,())) [] rfl tk rfl ?_
 refine ae (vl p S cs hw ⟨k,c,n,f⟩) ag ?_
 rintro x M ⟨rfl,rfl⟩
 try simp only[aq,al]
 refine aj (fun h1=> ?_) (fun h1=> ?_)
 ·have h1:Ob.may cs ⟨k,c,n,f⟩≠0:=by simpa using h1
  have e:Ob.make S cs ⟨k,c,n,f⟩=(0,Ob.may cs ⟨k,c,n,f⟩,S):=by unfold Ob.make;rw[if_pos h1]
  rw[e]
  exact aa (x:=((0:Int),Ob.may cs ⟨k,c,n,f⟩,())) rfl ⟨rfl,rfl⟩ ag aB
 ·have h1:Ob.may cs ⟨k,c,n,f⟩=0:=by simpa using h1
  obtain⟨hm,hf⟩:=Ob.jD h1
  have hb:=Sp.bU hm
  dsimp only at hb
  refine au.op tk fun ps pt=> ?_
  refine aK (aR [aw p [.pointer (some ⟨ps,0,none⟩),.pointer (some ⟨pt,0,none⟩)],aw b1 [.int .i64 k,.int .i64 c,.int .i64 n,.bool f]] ag ?_)
  refine ah (ar (k:= .ptr) (x:=some ⟨ps,0,none⟩) (by rw[af]) tk rfl ?_)
  refine ar (k:= .int .i64) (b:=b1) (x:=n) (by rw[af]) tk rfl ?_
  rw[wrap64 (by omega) (by omega)]
  refine ae (sW ps S hw.wf (n+1)) ag ?_
  rintro x M ⟨rfl,rfl⟩
  try simp only[aq,al]
  refine aj (fun h2=> ?_) (fun h2=> ?_)
  ·have h2:(Sp.alloc S (n+1)).2.1≠0:=by simpa using h2
   have e:Ob.make S cs ⟨k,c,n,f⟩=(0,(Sp.alloc S (n+1)).2.1,S):=by unfold Ob.make;rw[if_neg (by simp[h1]),if_pos h2]
   rw[e,Sp.xr h2]
   refine Tr.close ag (au.cl (p:=p) (ps:=ps) (pt:=pt) (S:=S) (cs:=cs)) ?_
   exact aa (x:=((0:Int),(Sp.alloc S (n+1)).2.1,())) rfl ⟨rfl,rfl⟩ ag aB
  ·have h2:(Sp.alloc S (n+1)).2.1=0:=by simpa using h2
   have e:Ob.make S cs ⟨k,c,n,f⟩=((Sp.alloc S (n+1)).1,0,⟨(Sp.alloc S (n+1)).2.2.ws.set (Sp.alloc S (n+1)).1.toNat (Sp.dJ ⟨k,c,n,f⟩),(Sp.alloc S (n+1)).2.2.pg⟩):=by
    unfold Ob.make;rw[if_neg (by simp[h1]),if_neg (by simp[h2])]
   rw[e]
   obtain⟨a,m,ha,hm2,m1,m2,m3,m4,m5⟩:=Sp.p6 hw.wf h2
   refine bD (b:=b1) (x:=(k,c,n,f,())) [] rfl tk rfl ?_
   refine ae (oT ⟨k,c,n,f⟩) ag ?_
   rintro x M ⟨rfl,rfl⟩
   try simp only[aq,al]
   rw[if_pos hm]
   refine ah ?_
   refine ai (k:= .ptr) (b:=p) (x:=some ⟨ps,0,none⟩) (by rw[af]) tk rfl ?_
   refine kh ps (Sp.alloc S (n+1)).2.2 (Sp.alloc S (n+1)).1 (Sp.dJ ⟨k,c,n,f⟩) (T:=bad) (by omega) tk ?_
   refine Tr.close ag (au.cl (p:=p) (ps:=ps) (pt:=pt) (S:=⟨(Sp.alloc S (n+1)).2.2.ws.set (Sp.alloc S (n+1)).1.toNat (Sp.dJ ⟨k,c,n,f⟩),(Sp.alloc S (n+1)).2.2.pg⟩) (cs:=cs)) ?_
   exact aa (x:=((Sp.alloc S (n+1)).1,(0:Int),())) rfl ⟨rfl,rfl⟩ ag aB
def Ob.head(S:aD)(a:Int):Option Hd:=match Sp.find S a with
 |some (s,_)=>if(s:Int)=a then some (Sp.AX (S.ws.getD s 0))else none|none=>none
def Ob.fg:Option Hd→RT HE
 |some h=>(h.t,(0:Int),())|none=>(((0:Int),(0:Int),(0:Int),false,()),(2:Int),())
theorem Ob.bt{S:aD}{cs:List aS}(hw:aO S cs){a:Int}{h:Hd}(hh:Ob.head S a=some h):∃n w:Nat,a=n∧Sp.find S n=some (n,w)∧S.ws.getD n 0=Sp.dJ h∧Sp.cC h=true∧h.n+1≤w∧n+w≤S.ws.length:=by
 unfold Ob.head at hh
 split at hh
 ·rename_i s w hf
  split at hh
  ·rename_i e
   subst e
   injection hh with hh
   obtain⟨h',h1,h2,h3⟩:=hw.obj s w hf
   rw[h2,Sp.gN h1]at hh
   subst hh
   refine⟨s,w,rfl,hf,h2,h1,h3,?_⟩
   obtain⟨hn,hcase⟩:=Sp.jm hw.wf hf rfl
   have hlen:=hw.wf.len
   rcases hcase with ⟨c,l,k,g1,g2,g3,g4,g5,g6,g7⟩|⟨k,g1,g2,g3⟩
   ·have hk:k<l.length:=by
     rcases Nat.lt_or_ge k l.length with c|c
     ·exact c
     ·rw[List.getD_eq_getElem?_getD,List.getElem?_eq_none c]at g5;cases g5
    have:=lH g2 hk g3
    have:=aV g1
    omega
   ·have:=(hw.wf.head _ _ g1).2.2.1
    omega
  ·cases hh
 ·cases hh
theorem bS(p:Nat)(S:aD)(cs:List aS)(hw:aO S cs)(a:Int):Gl.Spec ρ Tryz.prog 61 [.pointer (some ⟨p,0,none⟩),i64 a] [au p S cs] HE
  fun r M=>r=Ob.fg (Ob.head S a)∧M=[au p S cs]:=by
 refine Spec.of (fun Q w hh=>F.object.ch.Head.calls (some ⟨p,0,none⟩) a hh) fun R=> ?_
 unfold F.object.ch.Head
 try simp only[aq,al]
 refine ax fun b1=> ?_
 rw[Dw]
 refine ak rfl (ah (au.op tk fun ps pt=> ?_))
 refine ai (k:= .ptr) (b:=p) (x:=some ⟨ps,0,none⟩) (by rw[af]) tk rfl ?_
 refine ae (lM ps S hw.wf a) ag ?_
 rintro x M ⟨rfl,rfl⟩
 try simp only[aq,al]
 cases hf:Sp.find S a with
 |none=>
  have e:Ob.head S a=none:=by unfold Ob.head;rw[hf]
  rw[e]
  refine aH rfl ?_
  refine aL (b:=b1) (off:=0) rfl tk (by simp) rfl ?_
  refine bD (b:=b1) (x:=((0:Int),(0:Int),(0:Int),false,())) [] rfl tk rfl ?_
  refine Tr.close ag (au.cl (p:=p) (ps:=ps) (pt:=pt) (S:=S) (cs:=cs)) ?_
  exact aa (x:=Ob.fg none) rfl ⟨rfl,rfl⟩ ag aB
 |some x=>
  obtain⟨s,w⟩:=x
  refine ak rfl (aj (fun h=> ?_) (fun h=> ?_))
  ·have h:¬(s:Int)=a:=by simpa[Sp.found]using h
   have e:Ob.head S a=none:=by unfold Ob.head;rw[hf];dsimp only;rw[if_neg h]
   rw[e]
   refine aL (b:=b1) (off:=0) rfl tk (by simp) rfl ?_
   refine bD (b:=b1) (x:=((0:Int),(0:Int),(0:Int),false,())) [] rfl tk rfl ?_
   refine Tr.close ag (au.cl (p:=p) (ps:=ps) (pt:=pt) (S:=S) (cs:=cs)) ?_
   exact aa (x:=Ob.fg none) rfl ⟨rfl,rfl⟩ ag aB
  ·have h:(s:Int)=a:=by simpa[Sp.found]using h
   have e:Ob.head S a=some (Sp.AX (S.ws.getD s 0)):=by unfold Ob.head;rw[hf];dsimp only;rw[if_pos h]
   obtain⟨n,w',rfl,g1,g2,g3,g4,g5⟩:=Ob.bt hw e
   have hsn:s=n:=by omega
   subst hsn
   rw[e]
   generalize Sp.AX (S.ws.getD s 0)=hd at g2 g3 g4⊢
   have hb:=Sp.bU g3
   refine ah ?_
   refine ai (k:= .ptr) (b:=p) (x:=some ⟨ps,0,none⟩) (by rw[af]) tk rfl ?_
   refine oX ps S (s:Int) (by omega) tk ?_
   rw[Int.toNat_natCast,g2]
   refine ak rfl ?_
   refine ae (zR hd g3) ag ?_
   rintro x M ⟨rfl,rfl⟩
   try simp only[aq,al]
   refine ax fun b2=> ?_
   refine aL (b:=b2) (off:=0) rfl tk (by simp) rfl (ak rfl ?_)
   refine bD (b:=b2) (x:=hd.t) [] rfl tk rfl ?_
   refine aL (b:=b1) (off:=0) rfl tk (by simp) rfl ?_
   refine bD (b:=b1) (x:=hd.t) [] rfl tk rfl ?_
   refine Tr.close ag (au.cl (p:=p) (ps:=ps) (pt:=pt) (S:=S) (cs:=cs)) ?_
   exact aa (x:=Ob.fg (some hd)) rfl ⟨rfl,rfl⟩ ag aB
def Ob.fieldAt(S:aD)(a i:Int):Int×Int:=match Ob.head S a with
 |none=>(0,2)|some h=>if i<0∨i≥h.n then(0,1)else(a+1+i,0)
theorem Ob.ee{S:aD}{cs:List aS}(hw:aO S cs){a i:Int}(h:(Ob.fieldAt S a i).2=0):∃hd,Ob.head S a=some hd∧0≤i∧i<hd.n∧(Ob.fieldAt S a i).1=a+1+i∧0≤a∧a+1+i<S.ws.length:=by
 unfold Ob.fieldAt at h⊢
 cases hh:Ob.head S a with
 |none=>rw[hh]at h;cases h
 |some hd=>
  rw[hh]at h
  dsimp only at h⊢
  split at h
  ·cases h
  ·rename_i hc
   obtain⟨n,w,rfl,_,_,_,g4,g5⟩:=Ob.bt hw hh
   rw[if_neg hc]
   exact⟨hd,rfl,by omega,by omega,rfl,by omega,by omega⟩
theorem mJ(p:Nat)(S:aD)(cs:List aS)(hw:aO S cs)(a i:Int):Gl.Spec ρ Tryz.prog 105 [.pointer (some ⟨p,0,none⟩),i64 a,i64 i] [au p S cs] P2
  fun r M=>r=((Ob.fieldAt S a i).1,(Ob.fieldAt S a i).2,())∧M=[au p S cs]:=by
 have hm:=hw.wf.gv
 have hl:=hw.wf.len
 refine Spec.of (fun Q w hh=>F.object.ch.field.calls (some ⟨p,0,none⟩) a i hh) fun R=> ?_
 unfold F.object.ch.field
 try simp only[aq,al]
 refine ae (bS p S cs hw a) ag ?_
 rintro x M ⟨rfl,rfl⟩
 try simp only[aq,al]
 refine ax fun b2=> ?_
 rw[Dw]
 cases hh:Ob.head S a with
 |none=>
  have e:Ob.fieldAt S a i=(0,2):=by unfold Ob.fieldAt;rw[hh]
  rw[e]
  refine aL (b:=b2) (off:=0) rfl tk (by simp) rfl (aH rfl ?_)
  exact aa (x:=((0:Int),(2:Int),())) rfl ⟨rfl,rfl⟩ ag aB
 |some hd=>
  obtain⟨n,w,rfl,_,_,g3,g4,g5⟩:=Ob.bt hw hh
  have hb:=Sp.bU g3
  refine aL (b:=b2) (off:=0) rfl tk (by simp) rfl (ak rfl ?_)
  refine aj (fun h1=> ?_) (fun h1=> ?_)
  ·have h1:=of_decide_eq_true h1
   have e:Ob.fieldAt S n i=(0,1):=by unfold Ob.fieldAt;rw[hh];dsimp only;rw[if_pos (.inl h1)]
   rw[e]
   exact aa (x:=((0:Int),(1:Int),())) rfl ⟨rfl,rfl⟩ ag aB
  ·have h1:=of_decide_eq_false h1
   refine ai (k:= .int .i64) (b:=b2) (off:=2) (x:=hd.n) (by rw[af]) tk rfl ?_
   refine aj (fun h2=> ?_) (fun h2=> ?_)
   ·have h2:=of_decide_eq_true h2
    have e:Ob.fieldAt S n i=(0,1):=by unfold Ob.fieldAt;rw[hh];dsimp only;rw[if_pos (.inr h2)]
    rw[e]
    exact aa (x:=((0:Int),(1:Int),())) rfl ⟨rfl,rfl⟩ ag aB
   ·have h2:=of_decide_eq_false h2
    have e:Ob.fieldAt S n i=((n:Int)+1+i,0):=by unfold Ob.fieldAt;rw[hh];dsimp only;rw[if_neg (by rintro(h|h)<;>omega)]
    rw[e,wrap64 (n:=(n:Int)+1) (by omega) (by omega),wrap64 (by omega) (by omega)]
    exact aa (x:=((n:Int)+1+i,(0:Int),())) rfl ⟨rfl,rfl⟩ ag aB
def Ob.get(S:aD)(a i:Int):Int×Int:=if(Ob.fieldAt S a i).2≠0 then(0,(Ob.fieldAt S a i).2)else(S.ws.getD (Ob.fieldAt S a i).1.toNat 0,0)
def Ob.put(S:aD)(a i x:Int):Int×aD:=if(Ob.fieldAt S a i).2≠0 then((Ob.fieldAt S a i).2,S)else(0,⟨S.ws.set (Ob.fieldAt S a i).1.toNat x,S.pg⟩)
theorem dg(p:Nat)(S:aD)(cs:List aS)(hw:aO S cs)(a i:Int):Gl.Spec ρ Tryz.prog 62 [.pointer (some ⟨p,0,none⟩),i64 a,i64 i] [au p S cs] P2
  fun r M=>r=((Ob.get S a i).1,(Ob.get S a i).2,())∧M=[au p S cs]:=by
 refine Spec.of (fun Q w hh=>F.object.ch.Field.calls (some ⟨p,0,none⟩) a i hh) fun R=> ?_
 unfold F.object.ch.Field
 try simp only[aq,al]
 refine ae (mJ p S cs hw a i) ag ?_
 rintro x M ⟨rfl,rfl⟩
 try simp only[aq,al]
 refine aj (fun h=> ?_) (fun h=> ?_)
 ·have h:(Ob.fieldAt S a i).2≠0:=by simpa using h
  have e:Ob.get S a i=(0,(Ob.fieldAt S a i).2):=by unfold Ob.get;rw[if_pos h]
  rw[e]
  exact aa (x:=((0:Int),(Ob.fieldAt S a i).2,())) rfl ⟨rfl,rfl⟩ ag aB
 ·have h:(Ob.fieldAt S a i).2=0:=by simpa using h
  have e:Ob.get S a i=(S.ws.getD (Ob.fieldAt S a i).1.toNat 0,0):=by unfold Ob.get;rw[if_neg (by simp[h])]
  obtain⟨hd,h1,h2,h3,h4,h5,h6⟩:=Ob.ee hw h
  rw[e]
  refine ah (au.op tk fun ps pt=> ?_)
  refine ai (k:= .ptr) (b:=p) (x:=some ⟨ps,0,none⟩) (by rw[af]) tk rfl ?_
  refine oX ps S (Ob.fieldAt S a i).1 (by omega) tk ?_
  refine Tr.close ag (au.cl (p:=p) (ps:=ps) (pt:=pt) (S:=S) (cs:=cs)) ?_
  exact aa (x:=(S.ws.getD (Ob.fieldAt S a i).1.toNat 0,(0:Int),())) rfl ⟨rfl,rfl⟩ ag aB
theorem cM(p:Nat)(S:aD)(cs:List aS)(hw:aO S cs)(a i x:Int):Gl.Spec ρ Tryz.prog 81 [.pointer (some ⟨p,0,none⟩),i64 a,i64 i,i64 x] [au p S cs] R1
  fun r M=>r=(Ob.put S a i x).1∧M=[au p (Ob.put S a i x).2 cs]:=by
 refine Spec.of (fun Q w hh=>F.object.ch.CV.calls (some ⟨p,0,none⟩) a i x hh) fun R=> ?_
 unfold F.object.ch.CV
 try simp only[aq,al]
 refine ae (mJ p S cs hw a i) ag ?_
 rintro x' M ⟨rfl,rfl⟩
 try simp only[aq,al]
 refine aj (fun h=> ?_) (fun h=> ?_)
 ·have h:(Ob.fieldAt S a i).2≠0:=by simpa using h
  have e:Ob.put S a i x=((Ob.fieldAt S a i).2,S):=by unfold Ob.put;rw[if_pos h]
  rw[e]
  exact aa (x:=(Ob.fieldAt S a i).2) rfl ⟨rfl,rfl⟩ ag aB
 ·have h:(Ob.fieldAt S a i).2=0:=by simpa using h
  have e:Ob.put S a i x=(0,⟨S.ws.set (Ob.fieldAt S a i).1.toNat x,S.pg⟩):=by unfold Ob.put;rw[if_neg (by simp[h])]
  obtain⟨hd,h1,h2,h3,h4,h5,h6⟩:=Ob.ee hw h
  rw[e]
  refine ah (au.op tk fun ps pt=> ?_)
  refine ai (k:= .ptr) (b:=p) (x:=some ⟨ps,0,none⟩) (by rw[af]) tk rfl ?_
  refine kh ps S (Ob.fieldAt S a i).1 x (T:=bad) (by omega) tk ?_
  refine Tr.close ag (au.cl (p:=p) (ps:=ps) (pt:=pt) (S:=⟨S.ws.set (Ob.fieldAt S a i).1.toNat x,S.pg⟩) (cs:=cs)) ?_
  exact aa (x:=(0:Int)) rfl ⟨rfl,rfl⟩ ag aB
end Go.Proofs.YtfepdmpplahloaaGreat
namespace Go.Proofs.YtfepdmpplahloaaGreat
open Go Go.Gl
variable{ρ0 ρ:FR}{L L':List aA}{Post:Value→List aA→Prop}{T:Tree}
def Ob.final(S:aD)(a:Int):Int×aD:=match Ob.head S a with
 |none=>(2,S)|some h=>if h.k=4 then(5,S)else if h.f=true then(4,S)else(0,⟨S.ws.set a.toNat (Sp.dJ {h with f:=true}),S.pg⟩)
theorem Sp.ve{h:Hd}(hm:Sp.cC h=true)(hk:h.k≠4):Sp.cC {h with f:=true}=true:=by
 obtain⟨k,c,n,f⟩:=h
 unfold Sp.cC at hm⊢
 dsimp only at*
 rw[if_neg hk]at hm⊢
 exact hm
theorem sy(p:Nat)(S:aD)(cs:List aS)(hw:aO S cs)(a:Int):Gl.Spec ρ Tryz.prog 132 [.pointer (some ⟨p,0,none⟩),i64 a] [au p S cs] R1
  fun r M=>r=(Ob.final S a).1∧M=[au p (Ob.final S a).2 cs]:=by
 refine Spec.of (fun Q w hh=>F.object.ch.wW.calls (some ⟨p,0,none⟩) a hh) fun R=> ?_
 unfold F.object.ch.wW
 try simp only[aq,al]
 refine ae (bS p S cs hw a) ag ?_
 rintro x M ⟨rfl,rfl⟩
 try simp only[aq,al]
 refine ax fun b2=> ?_
 rw[Dw]
 cases hh:Ob.head S a with
 |none=>
  have e:Ob.final S a=(2,S):=by unfold Ob.final;rw[hh]
  rw[e]
  refine aL (b:=b2) (off:=0) rfl tk (by simp) rfl (aH rfl ?_)
  exact aa (x:=(2:Int)) rfl ⟨rfl,rfl⟩ ag aB
 |some hd=>
  obtain⟨n,w,rfl,_,_,g3,g4,g5⟩:=Ob.bt hw hh
  have hb:=Sp.bU g3
  obtain⟨k,c,ln,f⟩:=hd
  dsimp only at*
  have e0:Ob.final S n=if k=4 then(5,S)else if f=true then(4,S)else(0,⟨S.ws.set n (Sp.dJ ⟨k,c,ln,true⟩),S.pg⟩):=by unfold Ob.final;rw[hh,Int.toNat_natCast]
  refine aL (b:=b2) (off:=0) rfl tk (by simp) rfl (ak rfl ?_)
  refine ai (k:= .int .i64) (b:=b2) (off:=0) (x:=k) (by rw[af]) tk rfl ?_
  refine aj (fun h1=> ?_) (fun h1=> ?_)
  ·rw[e0,if_pos (by simpa using h1)]
   exact aa (x:=(5:Int)) rfl ⟨rfl,rfl⟩ ag aB
  ·have h1:¬k=4:=by simpa using h1
   rw[if_neg h1]at e0
   refine ai (k:= .bool) (b:=b2) (off:=3) (x:=f) (by rw[af]) tk rfl ?_
   refine aj (fun h2=> ?_) (fun h2=> ?_)
   ·rw[e0,if_pos h2]
    exact aa (x:=(4:Int)) rfl ⟨rfl,rfl⟩ ag aB
   ·rw[if_neg (by simp[h2])]at e0
    rw[e0]
    refine aL (b:=b2) (off:=3) (by rw[af]) tk (by simp[bN]) rfl ?_
    refine bD (b:=b2) (x:=((k:Int),(c:Int),(ln:Int),true,())) [] rfl tk rfl ?_
    refine ae (oT ⟨k,c,ln,true⟩) ag ?_
    rintro x M ⟨rfl,rfl⟩
    try simp only[aq,al]
    rw[if_pos (Sp.ve (h:=⟨k,c,ln,f⟩) g3 h1)]
    refine ah (au.op tk fun ps pt=> ?_)
    refine ai (k:= .ptr) (b:=p) (x:=some ⟨ps,0,none⟩) (by rw[af]) tk rfl ?_
    refine kh ps S (n:Int) (Sp.dJ ⟨k,c,ln,true⟩) (T:=bad) (by omega) tk ?_
    rw[Int.toNat_natCast]
    refine Tr.close ag (au.cl (p:=p) (ps:=ps) (pt:=pt) (S:=⟨S.ws.set n (Sp.dJ ⟨k,c,ln,true⟩),S.pg⟩) (cs:=cs)) ?_
    exact aa (x:=(0:Int)) rfl ⟨rfl,rfl⟩ ag aB
def Sp.upto(n:Nat):List Int:=(List.range n).map fun j:Nat=>(j:Int)
theorem uZ(n:Nat)(hn:n<2^40):Gl.Spec ρ Tryz.prog 158 [i64 n] [] RS fun r M=>r.n=n∧M=[aE r 1 ((Sp.upto n).map i64)]:=by
 refine Spec.of (fun Q w h=>F.object.all.calls n h) fun R=> ?_
 unfold F.object.all
 try simp only[aq,al]
 refine Tr.cq 1 ?_
 refine aP (fun m s M=>(fun(s:ay) (j:Int)=>M=aE s 1 ((Sp.upto j.toNat).map i64)::R∧0≤j∧j≤n∧s.n=j.toNat∧m=n-j.toNat) s.1 s.2.1) n ?_ ?_
 ·exact⟨rfl,by simp,by dsimp only;omega,rfl,by simp⟩
 ·rintro m ⟨(s:ay),(j:Int),⟨⟩⟩ M ⟨rfl,h0,h1,hs,rfl⟩ X hX
  dsimp only at*
  refine aj (fun h=> ?_) (fun h=> ?_)
  ·replace h:j<(n:Int):=of_decide_eq_true h
   refine ax fun b=> ?_
   rw[wrap64 (by omega) (by omega)]
   refine df (x:=⟨some ⟨b,0,none⟩,1,1⟩) (ys:=[i64 j]) ca tk (Rd.cl tk rfl rfl) rfl (by rw[hs];dsimp only;omega) (by rw[hs];dsimp only;omega) fun r hr=> ?_
   have e:(Sp.upto j.toNat).map i64++[i64 j]=(Sp.upto (j+1).toNat).map i64:=by
    rw[show(j+1).toNat=j.toNat+1 by omega,Sp.upto,Sp.upto,List.range_succ]
    simp;omega
   rw[e]
   refine Tr.drop (A:=aw b [i64 j]) tk ?_
   exact hX (n-(j+1).toNat) _ _ (by omega) ⟨rfl,by dsimp only;omega,by dsimp only;omega,by dsimp only;rw[hr,hs];show _+1=_;omega,rfl⟩
  ·replace h:¬j<(n:Int):=of_decide_eq_false h
   have:j.toNat=n:=by omega
   rw[this]at hs⊢
   exact aa (x:=s) rfl ⟨hs,rfl⟩ ag aB
def Ob.refs(S:aD)(cs:List aS)(a:Int):List Int:=match Ob.head S a with
 |none=>[]
 |some h=>if h.k=1 then(match Sp.fP cs h.c with |some c=>c.2|none=>[])else if h.k=2 then Sp.upto h.n.toNat else if h.k=4 then[2]else[]
theorem nX(p:Nat)(S:aD)(cs:List aS)(hw:aO S cs)(a:Int):Gl.Spec ρ Tryz.prog 123 [.pointer (some ⟨p,0,none⟩),i64 a] [au p S cs] RS
  fun r M=>r.n=(Ob.refs S cs a).length∧M=[aE r 1 ((Ob.refs S cs a).map i64),au p S cs]:=by
 have qs:=hw.cls
 refine Spec.of (fun Q w hh=>F.object.ch.Refs.calls (some ⟨p,0,none⟩) a hh) fun R=> ?_
 unfold F.object.ch.Refs
 try simp only[aq,al]
 refine ae (bS p S cs hw a) ag ?_
 rintro x M ⟨rfl,rfl⟩
 try simp only[aq,al]
 refine ax fun b2=> ?_
 rw[Dw]
 cases hh:Ob.head S a with
 |none=>
  have e:Ob.refs S cs a=[]:=by unfold Ob.refs;rw[hh]
  rw[e]
  refine aL (b:=b2) (off:=0) rfl tk (by simp) rfl (aH rfl ?_)
  refine Tr.cq 1 ?_
  exact aa (x:=(⟨none,0,0⟩:ay)) rfl ⟨rfl,rfl⟩ ag aB
 |some hd=>
  obtain⟨n,w,rfl,_,_,g3,g4,g5⟩:=Ob.bt hw hh
  have hb:=Sp.bU g3
  obtain⟨k,c,ln,f⟩:=hd
  dsimp only at*
  have e0:Ob.refs S cs n=if k=1 then(match Sp.fP cs c with |some c=>c.2|none=>[])else if k=2 then Sp.upto ln.toNat else if k=4 then[2]else[]:=by unfold Ob.refs;rw[hh]
  refine aL (b:=b2) (off:=0) rfl tk (by simp) rfl (ak rfl ?_)
  refine ai (k:= .int .i64) (b:=b2) (off:=0) (x:=k) (by rw[af]) tk rfl ?_
  refine aj (fun h1=> ?_) (fun h1=> ?_)
  ·rw[if_pos (by simpa using h1)]at e0
   refine au.op tk fun ps pt=> ?_
   refine aK (aR [aw p [.pointer (some ⟨ps,0,none⟩),.pointer (some ⟨pt,0,none⟩)],aw b2 [.int .i64 k,.int .i64 c,.int .i64 ln,.bool f]] ag ?_)
   refine ah (ar (k:= .ptr) (x:=some ⟨pt,0,none⟩) (by rw[af]) tk rfl ?_)
   refine ar (k:= .int .i64) (b:=b2) (x:=c) (by rw[af]) tk rfl ?_
   cases hc:Sp.fP cs c with
   |none=>
    rw[hc]at e0
    rw[e0]
    have hcn:=Sp.pO hc
    refine fb ?_ ?_
    ·refine ae (dG pt cs c hcn) ag ?_
     rintro x M ⟨rfl,rfl⟩
     try simp only[aq,al]
     first |refine aN ag ?_|skip
     refine ax fun b3=> ?_
     rw[De]
     first |refine aN ag ?_|skip
     refine aL (b:=b3) (off:=0) rfl tk (by simp) rfl ?_
     first |refine aN ag ?_|skip
     refine ai (k:= .slice) (b:=b3) (off:=1) (x:=⟨none,0,0⟩) (by rw[af]) tk rfl ?_
     refine Tr.close ag (au.cl (p:=p) (ps:=ps) (pt:=pt) (S:=S) (cs:=cs)) ?_
     refine Tr.cq 1 ?_
     exact aa (x:=(⟨none,0,0⟩:ay)) rfl ⟨rfl,rfl⟩ ag aB
    ·refine ax fun b3=> ?_
     rw[De]
     first |refine aN ag ?_|skip
     refine ae (dG pt cs c hcn) ag ?_
     rintro x M ⟨rfl,rfl⟩
     try simp only[aq,al]
     first |refine aN ag ?_|skip
     refine aL (b:=b3) (off:=0) rfl tk (by simp) rfl ?_
     first |refine aN ag ?_|skip
     refine ai (k:= .slice) (b:=b3) (off:=1) (x:=⟨none,0,0⟩) (by rw[af]) tk rfl ?_
     refine Tr.close ag (au.cl (p:=p) (ps:=ps) (pt:=pt) (S:=S) (cs:=cs)) ?_
     refine Tr.cq 1 ?_
     exact aa (x:=(⟨none,0,0⟩:ay)) rfl ⟨rfl,rfl⟩ ag aB
   |some cl=>
    rw[hc]at e0
    dsimp only at e0
    rw[e0]
    obtain⟨i,rfl,hci⟩:=Sp.jl hc
    have hrl:=hw.refs cl (List.mem_of_getElem? hci)
    refine fb ?_ ?_
    ·refine ae (fU pt cs i cl hci qs (by omega)) ag ?_
     rintro x M ⟨q,rfl,hq,rfl⟩
     try simp only[aq,al]
     first |refine aN ag ?_|skip
     refine ax fun b3=> ?_
     rw[De]
     first |refine aN ag ?_|skip
     refine aL (b:=b3) (off:=0) rfl tk (by simp) rfl ?_
     first |refine aN ag ?_|skip
     refine ai (k:= .slice) (b:=b3) (off:=1) (x:=q) (by rw[af]) tk rfl ?_
     refine Tr.close ag (au.cl (p:=p) (ps:=ps) (pt:=pt) (S:=S) (cs:=cs)) ?_
     exact aa (x:=(q:ay)) rfl ⟨hq,rfl⟩ ag aB
    ·refine ax fun b3=> ?_
     rw[De]
     first |refine aN ag ?_|skip
     refine ae (fU pt cs i cl hci qs (by omega)) ag ?_
     rintro x M ⟨q,rfl,hq,rfl⟩
     try simp only[aq,al]
     first |refine aN ag ?_|skip
     refine aL (b:=b3) (off:=0) rfl tk (by simp) rfl ?_
     first |refine aN ag ?_|skip
     refine ai (k:= .slice) (b:=b3) (off:=1) (x:=q) (by rw[af]) tk rfl ?_
     refine Tr.close ag (au.cl (p:=p) (ps:=ps) (pt:=pt) (S:=S) (cs:=cs)) ?_
     exact aa (x:=(q:ay)) rfl ⟨hq,rfl⟩ ag aB
  ·have h1:¬k=1:=by simpa using h1
   rw[if_neg h1]at e0
   refine aj (fun h2=> ?_) (fun h2=> ?_)
   ·rw[if_pos (by simpa using h2)]at e0
    rw[e0]
    refine ai (k:= .int .i64) (b:=b2) (off:=2) (x:=ln) (by rw[af]) tk rfl ?_
    obtain⟨lnn,rfl⟩:∃m:Nat,ln=m:=⟨ln.toNat,by omega⟩
    refine ae (uZ lnn (by omega)) ag ?_
    rintro q M ⟨hq,rfl⟩
    try simp only[aq,al]
    rw[Int.toNat_natCast]
    exact aa (x:=(q:ay)) rfl ⟨by simp[Sp.upto,hq],rfl⟩ ag aB
   ·have h2:¬k=2:=by simpa using h2
    rw[if_neg h2]at e0
    refine aj (fun h3=> ?_) (fun h3=> ?_)
    ·rw[if_pos (by simpa using h3)]at e0
     rw[e0]
     refine ax fun b4=> ?_
     refine Tr.imp (A':=aE ⟨some ⟨b4,0,none⟩,1,1⟩ 1 (([2]:List Int).map i64)) .here (aE.wc rfl) ?_
     exact aa (x:=(⟨some ⟨b4,0,none⟩,1,1⟩:ay)) rfl ⟨rfl,rfl⟩ ag aB
    ·have h3:¬k=4:=by simpa using h3
     rw[if_neg h3]at e0
     rw[e0]
     refine Tr.cq 1 ?_
     exact aa (x:=(⟨none,0,0⟩:ay)) rfl ⟨rfl,rfl⟩ ag aB
end Go.Proofs.YtfepdmpplahloaaGreat
namespace Go.Proofs.YtfepdmpplahloaaGreat
open Go Go.Gl
variable{ρ0 ρ:FR}{L L':List aA}{Post:Value→List aA→Prop}{T:Tree}
structure fT where
 a:Int
 h:Hd
 ws:List Int
def wj(x:fT×ay):aA:=aE x.2 1 (x.1.ws.map i64)
def nF(x:fT×ay):List Value:=[i64 x.1.a,i64 x.1.h.k,i64 x.1.h.c,i64 x.1.h.n,.bool x.1.h.f,.slice x.2.a x.2.n x.2.c]
def Bd(s:ay)(os:List fT):aA:=fun h=>∃l:List (fT×ay),(s.n=os.length∧l.map (·.1)=os∧∀x∈l,x.2.n=x.1.ws.length)∧star [aE s 6 (l.flatMap nF),star (l.map wj)] h
theorem Bd.cl{s:ay}{l:List (fT×ay)}{os:List fT}(h1:s.n=os.length)(h2:l.map (·.1)=os)(h3:∀x∈l,x.2.n=x.1.ws.length)(h:HP)(H:star [aE s 6 (l.flatMap nF),star (l.map wj)] h):Bd s os h:=⟨l,⟨h1,h2,h3⟩,H⟩
def EB(ρ:FR)(s:ay)(os:List fT):Prop:=s.n=os.length∧∃l:List (fT×ay),l.map (·.1)=os∧eX ρ s 6 (l.flatMap nF)∧∀x∈l,eX ρ x.2 1 (x.1.ws.map i64)∧x.2.n=x.1.ws.length
theorem kF:∀(l:List (fT×ay)) {ρ:FR} {L:List aA} {T:Tree} (_:∀ρ',Le ρ ρ'→(∀x∈l,eX ρ' x.2 1 (x.1.ws.map i64))→Tr ρ0 ρ' L T Post),Tr ρ0 ρ (star (l.map wj)::L) T Post
 |[],ρ,L,T,h=>Tr.drop .here (h ρ (Le.refl _) (by simp))
 |x::l,ρ,L,T,h=>by
  refine Tr.gh (ι:=Unit) (M:=fun _=>[wj x,star (l.map wj)]) (c:=fun _=>True) .here (fun hp H=>⟨(),trivial,dV (fun _ h=>h) (fun _=>wD) H⟩) fun _ _=> ?_
  refine Tr.cX (s:=x.2) (m:=1) (xs:=x.1.ws.map i64) .here fun ρ' hle hro=> ?_
  refine kF l fun ρ'' hle2 hall=>h ρ'' (hle.trans hle2) ?_
  intro y hy
  rcases List.mem_cons.mp hy with hy|hy
  ·subst hy;exact hro.le hle2
  ·exact hall y hy
theorem Tr.Bw{s:ay}{os:List fT}(t:Take L (Bd s os) L')(h:∀ρ',Le ρ ρ'→EB ρ' s os→Tr ρ0 ρ' L' T Post):Tr ρ0 ρ L T Post:=by
 refine Tr.gh (M:=fun l:List (fT×ay)=>[aE s 6 (l.flatMap nF),star (l.map wj)]) t (fun _ h=>h) fun l hl=> ?_
 refine Tr.cX (s:=s) (m:=6) (xs:=l.flatMap nF) .here fun ρ' hle hro=> ?_
 refine kF l fun ρ'' hle2 hall=>h ρ'' (hle.trans hle2) ⟨hl.1,l,hl.2.1,hro.le hle2,fun x hx=>⟨hall x hx,hl.2.2 x hx⟩⟩
def Ob.gU(S:aD)(a:Int):fT:=match Ob.head S a with
 |some h=>⟨a,h,(List.range h.n.toNat).map fun i:Nat=>(Ob.get S a i).1⟩|none=>⟨a,⟨0,0,0,false⟩,[]⟩
def Ob.mS(S:aD):List fT:=(Sp.each S).map (Ob.gU S)
theorem Ed:lU Tryz.prog #[44,44] 6 64=true:=by kernel_rfl
theorem FE:zc Tryz.prog 105=[.int .i64 0,.int .i64 0,.int .i64 0,.int .i64 0,.bool false,.slice none 0 0]:=by kernel_rfl
theorem pC(p:Nat)(S:aD)(cs:List aS)(hw:aO S cs):Gl.Spec ρ Tryz.prog 24 [.pointer (some ⟨p,0,none⟩)] [au p S cs] RS
  fun r M=>M=[Bd r (Ob.mS S),au p S cs]∧r.n=(Ob.mS S).length:=by
 have hel:=Sp.cV hw.wf
 refine Spec.of (fun Q w' h=>F.object.ch.kT.calls (some ⟨p,0,none⟩) h) fun R=> ?_
 unfold F.object.ch.kT
 try simp only[aq,al]
 refine ak rfl (ah (au.op tk fun ps pt=> ?_))
 refine ai (k:= .ptr) (b:=p) (x:=some ⟨ps,0,none⟩) (by rw[af]) tk rfl ?_
 refine ae (fx ps S hw.wf) ag ?_
 rintro s M ⟨hs,rfl⟩
 try simp only[aq,al]
 refine Tr.close ag (au.cl (p:=p) (ps:=ps) (pt:=pt) (S:=S) (cs:=cs)) ?_
 refine Tr.cX (s:=s) tk fun ρ' hle hro=> ?_
 refine Tr.none ?_
 refine Tr.cq 6 ?_
 refine aP (fun m u M=>(fun(t:ay) (i:Int)=>∃l:List (fT×ay),M=aE t 6 (l.flatMap nF)::star (l.map wj)::au p S cs::R∧0≤i∧i≤(Sp.each S).length∧m=(Sp.each S).length-i.toNat∧t.n=i.toNat∧
   l.map (·.1)=((Sp.each S).take i.toNat).map (Ob.gU S)∧∀x∈l,x.2.n=x.1.ws.length) u.1 u.2.1) (Sp.each S).length ?_ ?_
 ·exact⟨[],rfl,by simp,by simp,by simp,rfl,by simp,by simp⟩
 ·rintro m ⟨(t:ay),(i:Int),⟨⟩⟩ M ⟨l,rfl,h0,h1,rfl,htn,hl,hln⟩ X hX
  dsimp only at*
  refine aj (fun h=> ?_) (fun h=> ?_)
  ·replace h:i<(s.n:Int):=of_decide_eq_true h
   have hi:i.toNat<(Sp.each S).length:=by omega
   refine bJ hro h0 h fun a0 ha=> ?_
   refine bZ (j:=i.toNat) (x:=(Sp.each S).getD i.toNat 0) ha hro (by rintro b o rfl;simp[af]) (getD_map hi) ?_
   have hmem:(Sp.each S).getD i.toNat 0∈Sp.each S:=by rw[List.getD_eq_getElem?_getD,List.getElem?_eq_getElem hi];exact List.getElem_mem hi
   have htk:=aJ 0 hi
   generalize(Sp.each S).getD i.toNat 0=a at hmem htk⊢
   obtain⟨n,rfl,hn,w,hf,w1,w2,w3⟩:=Sp.iL hw.wf hmem
   obtain⟨hd,hm,hwd,hfit⟩:=hw.obj n w hf
   have hb:=Sp.bU hm
   have hhd:Ob.head S n=some hd:=by unfold Ob.head;rw[hf];dsimp only;rw[if_pos rfl,hwd,Sp.gN hm]
   obtain⟨ln,hln2⟩:∃ln:Nat,hd.n=ln:=⟨hd.n.toNat,by omega⟩
   refine ax fun b8=> ?_
   rw[FE]
   refine aL (b:=b8) (off:=0) rfl tk (by simp) rfl ?_
   refine ae (bS p S cs hw (n:Int)) ag ?_
   rintro x M ⟨rfl,rfl⟩
   try simp only[aq,al]
   rw[hhd]
   refine aL (b:=b8) (off:=1) (by rw[af]) tk (by simp[bN]) rfl ?_
   have e8:bN (bN [.int .i64 0,.int .i64 0,.int .i64 0,.int .i64 0,.bool false,.slice none 0 0] 0 [.int .i64 (n:Int),.int .i64 0,.int .i64 0,.int .i64 0,.bool false,.slice none 0 0]) 1
     [.int .i64 (Ob.fg (some hd)).1.1,.int .i64 (Ob.fg (some hd)).1.2.1,.int .i64 (Ob.fg (some hd)).1.2.2.1,.bool (Ob.fg (some hd)).1.2.2.2.1]=[i64 n,i64 hd.k,i64 hd.c,i64 ln,.bool hd.f,.slice none 0 0]:=by
    rw[←hln2];rfl
   rw[e8]
   refine ai (k:= .int .i64) (b:=b8) (off:=3) (x:=(ln:Int)) (by rw[af,af]) tk rfl ?_
   refine Tr.cq 1 ?_
   refine Tr.take (A:=aw b8 [i64 n,i64 hd.k,i64 hd.c,i64 ln,.bool hd.f,.slice none 0 0]) tk ?_
   refine aP (fun m u M=>(fun(j:Int)=>∃q:ay,M=aw b8 [i64 n,i64 hd.k,i64 hd.c,i64 ln,.bool hd.f,.slice q.a q.n q.c]::aE q 1 (((List.range j.toNat).map fun i:Nat=>(Ob.get S n i).1).map i64)::au p S cs::aE t 6 (l.flatMap nF)::star (l.map wj)::R∧
     0≤j∧j≤ln∧m=ln-j.toNat∧q.n=j.toNat) u.1) ln ?_ ?_
   ·exact⟨⟨none,0,0⟩,rfl,by simp,by dsimp only;omega,by simp,rfl⟩
   ·rintro m ⟨(j:Int),⟨⟩⟩ M ⟨q,rfl,j0,j1,rfl,hq⟩ Y hY
    dsimp only at*
    refine aj (fun h2=> ?_) (fun h2=> ?_)
    ·replace h2:j<(ln:Int):=of_decide_eq_true h2
     refine ae (dg p S cs hw (n:Int) j) ag ?_
     rintro x M ⟨rfl,rfl⟩
     try simp only[aq,al]
     refine ai (k:= .slice) (b:=b8) (off:=5) (x:=q) (by rw[af]) tk rfl ?_
     refine ax fun b=> ?_
     refine df (s:=q) (x:=⟨some ⟨b,0,none⟩,1,1⟩) (ys:=[i64 (Ob.get S n j).1]) ca tk (Rd.cl tk rfl rfl) rfl (by rw[hq];dsimp only;omega) (by rw[hq];dsimp only;omega) fun r hr=> ?_
     refine aL (b:=b8) (off:=5) (by rw[af]) tk (by simp) rfl ?_
     have e:((List.range j.toNat).map fun i:Nat=>(Ob.get S n i).1).map i64++[i64 (Ob.get S n j).1]=((List.range (j+1).toNat).map fun i:Nat=>(Ob.get S n i).1).map i64:=by
      rw[show(j+1).toNat=j.toNat+1 by omega,List.range_succ,List.map_append,List.map_append]
      simp only[List.map_cons,List.map_nil]
      rw[show((j.toNat:Nat):Int)=j by omega]
     rw[e]
     refine Tr.drop (A:=aw b [i64 (Ob.get S n j).1]) tk ?_
     rw[wrap64 (by omega) (by omega)]
     exact hY (ln-(j+1).toNat) _ _ (by omega) ⟨r,rfl,by dsimp only;omega,by dsimp only;omega,rfl,by dsimp only;rw[hr,hq];show _+1=_;omega⟩
    ·replace h2:¬j<(ln:Int):=of_decide_eq_false h2
     have hjl:j.toNat=ln:=by omega
     rw[hjl]at hq⊢
     refine bD (b:=b8) (x:=((n:Int),hd.k,hd.c,(ln:Int),hd.f,q,())) [] rfl tk rfl ?_
     refine ax fun b9=> ?_
     refine df (s:=t) (x:=⟨some ⟨b9,0,none⟩,1,1⟩) (ys:=[i64 n,i64 hd.k,i64 hd.c,i64 ln,.bool hd.f,.slice q.a q.n q.c]) Ed tk (Rd.cl tk rfl rfl) rfl (by rw[htn];dsimp only;omega) (by rw[htn];dsimp only;omega) fun r hr=> ?_
     have hat:Ob.gU S n=⟨n,hd,(List.range ln).map fun i:Nat=>(Ob.get S n i).1⟩:=by
      unfold Ob.gU;rw[hhd];dsimp only;rw[hln2,Int.toNat_natCast]
     have hfl:l.flatMap nF++[i64 n,i64 hd.k,i64 hd.c,i64 ln,.bool hd.f,.slice q.a q.n q.c]=(l++[(Ob.gU S n,q)]).flatMap nF:=by
      rw[List.flatMap_append,List.flatMap_cons,List.flatMap_nil,List.append_nil,hat]
      simp only[nF,hln2]
     rw[hfl]
     refine Tr.imp (A:=star (l.map wj)) (A':=star ((l++([]:List (fT×ay))).map wj)) tk (by simp) ?_
     have hw2:((List.range ln).map fun i:Nat=>(Ob.get S n i).1)=(Ob.gU S n).ws:=by rw[hat]
     rw[hw2]
     refine Tr.close (A:=star ((l++[(Ob.gU S n,q)]).map wj)) (M:=[aE q 1 ((Ob.gU S n).ws.map i64),star ((l++([]:List (fT×ay))).map wj)]) ag (fun h H=>kK (P:=wj) (x:=(Ob.gU S n,q)) h H) ?_
     refine Tr.drop (A:=aw b9 [i64 n,i64 hd.k,i64 hd.c,i64 ln,.bool hd.f,.slice q.a q.n q.c]) tk ?_
     refine Tr.drop (A:=aw b8 [i64 n,i64 hd.k,i64 hd.c,i64 ln,.bool hd.f,.slice q.a q.n q.c]) tk ?_
     refine Tr.take (A:=aE r 6 ((l++[(Ob.gU S n,q)]).flatMap nF)) tk ?_
     rw[wrap64 (by omega) (by omega)]
     refine hX ((Sp.each S).length-(i+1).toNat) _ _ (by omega) ⟨l++[(Ob.gU S n,q)],rfl,by dsimp only;omega,by dsimp only;omega,rfl,by dsimp only;rw[hr,htn];show _+1=_;omega,?_,?_⟩
     ·dsimp only
      rw[show(i+1).toNat=i.toNat+1 by omega,htk,List.map_append,List.map_append,hl];rfl
     ·intro x hx
      rcases List.mem_append.mp hx with hx|hx
      ·exact hln x hx
      ·simp only[List.mem_singleton]at hx
       subst hx
       dsimp only
       rw[←hw2,hq];simp
  ·replace h:¬i<(s.n:Int):=of_decide_eq_false h
   have hie:i.toNat=(Sp.each S).length:=by omega
   rw[hie,List.take_length]at hl
   have htl:t.n=(Ob.mS S).length:=by rw[htn,hie];simp[Ob.mS]
   refine Tr.close (M:=[aE t 6 (l.flatMap nF),star (l.map wj)]) ag (Bd.cl (os:=Ob.mS S) htl hl hln) ?_
   exact aa (x:=(t:ay)) rfl ⟨rfl,htl⟩ ag aB
end Go.Proofs.YtfepdmpplahloaaGreat
namespace Go.Proofs.YtfepdmpplahloaaGreat
open Go Go.Gl
theorem cK{ws:List Int}{i j:Nat}{x:Int}(h:i≠j):(ws.set i x).getD j 0=ws.getD j 0:=by
 rw[List.getD_eq_getElem?_getD,List.getElem?_set_ne h,List.getD_eq_getElem?_getD]
theorem eL{ws:List Int}{i:Nat}{x:Int}(h:i<ws.length):(ws.set i x).getD i 0=x:=by
 simp[List.getD_eq_getElem?_getD,h]
theorem o9{ws:List Int}{i n j:Nat}(h:i+n≤ws.length):(Sp.eJ ws i n).getD j 0=if i≤j∧j<i+n then 0 else ws.getD j 0:=by
 unfold Sp.eJ
 rw[List.getD_eq_getElem?_getD,List.getD_eq_getElem?_getD]
 rcases Nat.lt_or_ge j i with c|c
 ·rw[List.getElem?_append_left (by simp;omega),if_neg (by omega),List.getElem?_take,if_pos c]
 ·rw[List.getElem?_append_right (by simp;omega)]
  rw[show j-(ws.take i).length=j-i by simp;omega]
  rcases Nat.lt_or_ge j (i+n)with c2|c2
  ·rw[List.getElem?_append_left (by simp;omega),if_pos ⟨c,c2⟩,List.getElem?_replicate,if_pos (by omega)];rfl
  ·rw[List.getElem?_append_right (by simp;omega),if_neg (by omega),List.getElem?_drop]
   congr 2
   simp;omega
theorem sQ{S S':aD}(hw:Wf S)(hw':Wf S'){p:Nat}(h:∀j k:Nat,j≤p→p<j+k→(S.pg[j]? =some (.head k)↔S'.pg[j]? =some (.head k))):Sp.own S.pg p=Sp.own S'.pg p:=by
 cases h1:Sp.own S.pg p with
 |some x=>
  obtain⟨g1,g2,g3⟩:=Sp.p5 (j:=x.1) (k:=x.2) h1
  rw[Sp.nA hw' ((h _ _ g2 g3).mp g1) ⟨g2,g3⟩]
 |none=>
  cases h2:Sp.own S'.pg p with
  |none=>rfl
  |some x=>
   obtain⟨g1,g2,g3⟩:=Sp.p5 (j:=x.1) (k:=x.2) h2
   rw[Sp.nA hw ((h _ _ g2 g3).mpr g1) ⟨g2,g3⟩]at h1;cases h1
theorem mF{S:aD}(hw:Wf S){p:Nat}(h:S.pg[p]? =some .free):Sp.own S.pg p=none:=by
 refine Sp.sb fun j k hj hp=> ?_
 rcases Nat.lt_or_ge j p with c|c
 ·have:=(hw.head _ _ hj).2.2.2 p c hp.2
  rw[h]at this;cases this
 ·have:j=p:=by omega
  subst this;rw[h]at hj;cases hj
theorem oQ{S S':aD}(hw:Wf S)(hw':Wf S')(hl:S'.ws.length=S.ws.length){m:Nat}(hp:S'.pg[m/64]? =S.pg[m/64]?)(ho:Sp.own S'.pg (m/64)=Sp.own S.pg (m/64)):Sp.find S' m=Sp.find S m:=by
 unfold Sp.find
 rw[hl,Int.toNat_natCast,hp,ho]
theorem eN{S:aD}{ws:List Int}(hl:ws.length=S.ws.length)(a:Int):Sp.find ⟨ws,S.pg⟩ a=Sp.find S a:=by
 unfold Sp.find;rw[hl]
theorem vQ{S:aD}(hw:Wf S){w:Int}(h:(Sp.alloc S w).2.1=0):∃a n:Nat,(Sp.alloc S w).1=a∧Sp.aw w=n∧2≤n∧n≤1024∧a+n≤S.ws.length∧(Sp.alloc S w).2.2.ws=Sp.eJ S.ws a n∧
  (∀m:Nat,Sp.find (Sp.alloc S w).2.2 m=if a≤m∧m<a+n then some (a,n)else Sp.find S m)∧∀m:Nat,a≤m→m<a+n→Sp.find S m=none:=by
 obtain⟨a,n,h1,h2,h3,h4,h5,h6,h7⟩:=Sp.p6 hw h
 have hw':=Sp.pX hw w
 have hlen:=hw.len
 refine⟨a,n,h1,h2,h3,h4,h5,h6,?_⟩
 have hb:Sp.aw w≠0:=by omega
 have hpl:(Sp.place S.pg w).2.1=0∧(Sp.alloc S w).2.2.pg=(Sp.place S.pg w).2.2∧(Sp.place S.pg w).1=(Sp.alloc S w).1:=by
  unfold Sp.alloc at h⊢
  rw[if_neg hb]at h⊢
  split at h
  ·rename_i h0;rw[if_pos h0];exact⟨h0,rfl,rfl⟩
  ·rename_i h0;exact absurd h h0
 obtain⟨p1,p2,p3⟩:=hpl
 generalize(Sp.alloc S w).2.2=S' at h6 h7 hw' p2⊢
 have hl':=hw'.len
 rcases Sp.h9 hw hb with e|⟨i,k,_,_,k1,k2,k3,k4,k5,e⟩|⟨c,i,k,l,_,c1,c2,c3,c4,c5,c6,c7,e⟩
 ·rw[e]at p1;cases p1
 ·rw[e]at p2 p3
  dsimp only at p2 p3
  have ha:a=i*64:=by omega
  have hn:n=k*64:=by omega
  have hnone:∀m:Nat,a≤m→m<a+n→Sp.find S m=none:=fun m g1 g2=>by
   have hf:=k5 (m/64) (by omega) (by omega)
   rw[Sp.cO (by omega) (fun c l hc=>by rw[hf]at hc;cases hc),mF hw hf];rfl
  refine⟨fun m=> ?_,hnone⟩
  by_cases hm:a≤m∧m<a+n
  ·rw[if_pos hm]
   have hi:S'.pg[i]? =some (.head k):=by rw[p2,cA,if_pos (by omega),if_pos rfl]
   rw[Sp.cO (by omega) (fun c l hc=>by
    rw[p2,cA,if_pos (by omega)]at hc
    split at hc
    ·cases hc
    ·rw[if_pos (by omega)]at hc;cases hc),Sp.nA hw' hi (by omega)]
   rw[Option.map_some,ha,hn]
  ·rw[if_neg hm]
   have hoff:¬(i≤m/64∧m/64<i+k):=by omega
   refine oQ hw hw' h7 (by rw[p2,dn k1 hoff]) ?_
   refine sQ hw' hw fun j k' g1 g2=> ?_
   rw[p2]
   by_cases hj:i≤j∧j<i+k
   ·rw[k5 j hj.1 hj.2,cA,if_pos (by omega)]
    constructor
    ·intro hh
     split at hh
     ·rename_i e2
      injection hh with hh;injection hh with hh
      subst hh;omega
     ·rw[if_pos (by omega)]at hh;cases hh
    ·intro hh;cases hh
   ·rw[dn k1 hj]
 ·rw[e]at p2 p3
  dsimp only at p2 p3
  obtain⟨f1,f2,f3⟩:=lH c1 c6 c5
  have ha:a=i*64+k*Sp.sz c:=by omega
  have hn:n=Sp.sz c:=by omega
  have hi':S'.pg[i]? =some (.small c (l.set k true)):=by rw[p2,cB c3,if_pos rfl]
  have nh:∀k,S.pg[i]? ≠some (.head k):=by intro k h;rcases c4 with h'|⟨h',_⟩<;>rw[h']at h<;>cases h
  have hidx:∀m:Nat,m/64=i→((a≤m∧m<a+n)↔m%64/Sp.sz c=k):=fun m hm=>by
   rw[ha,hn]
   have hd:=Nat.div_add_mod (m%64) (Sp.sz c)
   have hlt:=Nat.mod_lt (m%64) (show 0<Sp.sz c by omega)
   constructor
   ·rintro⟨g1,g2⟩
    have hx:k*Sp.sz c≤m%64∧m%64<k*Sp.sz c+Sp.sz c:=by omega
    have:=Nat.div_le_div_right (c:=Sp.sz c) hx.1
    rw[Nat.mul_div_cancel _ (by omega)]at this
    have h2:m%64/Sp.sz c<k+1:=(Nat.div_lt_iff_lt_mul (by omega)).mpr (by rw[Nat.add_mul];omega)
    omega
   ·intro g
    rw[g]at hd
    rw[Nat.mul_comm]at hd
    omega
  have hfS:∀m:Nat,m<S.ws.length→m/64=i→Sp.find S m=if l.getD (m%64/Sp.sz c) false then some (m/64*64+m%64/Sp.sz c*Sp.sz c,Sp.sz c)else none:=fun m hml hm=>by
   rcases c4 with h'|⟨h',hl2,_⟩
   ·rw[Sp.dy hml (by rw[hm];exact h')]
   ·rw[Sp.cO hml (fun c l hc=>by rw[hm,h']at hc;cases hc),hm,mF hw h',hl2]
    rw[List.getD_eq_getElem?_getD,List.getElem?_replicate]
    split<;>rfl
  refine⟨fun m=> ?_,fun m g1 g2=> ?_⟩
  ·by_cases hml:m<S.ws.length
   ·by_cases hm:m/64=i
    ·rw[Sp.dy (by omega) (by rw[hm];exact hi'),hfS m hml hm]
     by_cases hk:m%64/Sp.sz c=k
     ·rw[if_pos ((hidx m hm).mpr hk),hk,List.getD_eq_getElem?_getD,List.getElem?_set,if_pos rfl,if_pos c6,hm,ha,hn];rfl
     ·rw[if_neg (fun h=>hk ((hidx m hm).mp h)),List.getD_eq_getElem?_getD,List.getElem?_set_ne (fun e=>hk e.symm),List.getD_eq_getElem?_getD]
    ·rw[if_neg (by omega)]
     refine oQ hw hw' h7 (by rw[p2,cB c3,if_neg (fun e=>hm e.symm)]) ?_
     refine sQ hw' hw fun j k' g1 g2=> ?_
     rw[p2]
     exact(gC nh (fun k h=>by cases h) j k').symm
   ·rw[if_neg (by omega),Sp.dA (by omega),Sp.dA (by omega)]
  ·rw[hfS m (by omega) (by omega),(hidx m (by omega)).mp ⟨g1,g2⟩,c7];rfl
theorem jw{S:aD}(hw:Wf S){a w:Nat}(h:Sp.find S a=some (a,w)){m:Nat}(h1:a≤m)(h2:m<a+w):Sp.find S m=some (a,w):=by
 have hlen:=hw.len
 obtain⟨hn,hcase⟩:=Sp.jm hw h rfl
 rcases hcase with ⟨c,l,k,g1,g2,g3,g4,g5,g6,g7⟩|⟨k,g1,g2,g3⟩
 ·have hk:k<l.length:=by
   rcases Nat.lt_or_ge k l.length with c|c
   ·exact c
   ·rw[List.getD_eq_getElem?_getD,List.getElem?_eq_none c]at g5;cases g5
  obtain⟨f1,f2,f3⟩:=lH g2 hk g3
  have hp:=aV g1
  have hm:m/64=a/64:=by omega
  have hx:k*Sp.sz c≤m%64∧m%64<k*Sp.sz c+Sp.sz c:=by omega
  have hidx:m%64/Sp.sz c=k:=by
   have t1:=Nat.div_le_div_right (c:=Sp.sz c) hx.1
   rw[Nat.mul_div_cancel _ (by omega)]at t1
   have t2:m%64/Sp.sz c<k+1:=(Nat.div_lt_iff_lt_mul (by omega)).mpr (by rw[Nat.add_mul];omega)
   omega
  rw[Sp.dy (by omega) (by rw[hm];exact g1),hidx,g5,if_pos rfl,hm,←g6,g7]
 ·obtain⟨k1,k2,k3,k4⟩:=hw.head _ _ g1
  have hns:∀c l,S.pg[m/64]? ≠some (.small c l):=fun c l hc=>by
   rcases Nat.lt_or_ge (a/64) (m/64)with c'|c'
   ·rw[k4 (m/64) c' (by omega)]at hc;cases hc
   ·have:m/64=a/64:=by omega
    rw[this,g1]at hc;cases hc
  rw[Sp.cO (by omega) hns,Sp.nA hw g1 (by omega),Option.map_some,g3,←g2]
theorem aO.uw{S:aD}{cs:List aS}(hw:aO S cs){i:Nat}{x:Int}(h:∀w:Nat,Sp.find S i=some (i,w)→∃h:Hd,Sp.cC h=true∧x=Sp.dJ h∧h.n+1≤(w:Int)):aO ⟨S.ws.set i x,S.pg⟩ cs:=by
 have hl:(S.ws.set i x).length=S.ws.length:=by simp
 refine⟨⟨by simp[hw.wf.len],hw.wf.gv,hw.wf.pos,hw.wf.res,hw.wf.small,hw.wf.head,hw.wf.tail⟩,fun n w hf=> ?_,hw.cls,hw.refs⟩
 rw[eN hl]at hf
 by_cases hni:i=n
 ·subst hni
  obtain⟨hd,h1,h2,h3⟩:=h w hf
  have hn:i<S.ws.length:=(Sp.jm hw.wf hf rfl).1
  exact⟨hd,h1,by dsimp only;rw[eL hn];exact h2,h3⟩
 ·obtain⟨hd,h1,h2,h3⟩:=hw.obj n w hf
  exact⟨hd,h1,by dsimp only;rw[cK hni];exact h2,h3⟩
theorem aO.put{S:aD}{cs:List aS}(hw:aO S cs)(a i x:Int):aO (Ob.put S a i x).2 cs:=by
 unfold Ob.put
 split
 ·exact hw
 ·rename_i h
  have h:(Ob.fieldAt S a i).2=0:=by simpa using h
  obtain⟨hd,h1,h2,h3,h4,h5,h6⟩:=Ob.ee hw h
  obtain⟨n,w,rfl,f1,f2,f3,f4,f5⟩:=Ob.bt hw h1
  refine hw.uw fun w' hf=> ?_
  exfalso
  have:=jw hw.wf f1 (m:=(Ob.fieldAt S n i).1.toNat) (by omega) (by omega)
  rw[this]at hf
  injection hf with hf;injection hf with hf _
  omega
theorem aO.final{S:aD}{cs:List aS}(hw:aO S cs)(a:Int):aO (Ob.final S a).2 cs:=by
 unfold Ob.final
 split
 ·exact hw
 ·rename_i h hh
  obtain⟨n,w,rfl,f1,f2,f3,f4,f5⟩:=Ob.bt hw hh
  split
  ·exact hw
  ·rename_i hk
   split
   ·exact hw
   ·rw[Int.toNat_natCast]
    refine hw.uw fun w' hf=> ?_
    rw[f1]at hf;injection hf with hf;injection hf with _ hf
    subst hf
    exact⟨_,Sp.ve f3 hk,rfl,f4⟩
theorem DJ{w:Int}(h:Sp.aw w≠0):w≤Sp.aw w:=by
 by_cases hc:Sp.cls w<0
 ·obtain⟨k1,k2,k3⟩:=Sp.oy h hc
  rw[k3]
  unfold Sp.jL at k1⊢
  split at k1
  ·omega
  ·rename_i hn;rw[if_neg hn];omega
 ·unfold Sp.aw
  rw[if_pos (by omega)]
  rcases Sp.iT w with ⟨_,e⟩|⟨_,h2,e⟩|⟨_,h2,e⟩|⟨_,h2,e⟩|⟨_,h2,e⟩|⟨_,h2,e⟩|⟨_,e⟩<;>rw[e]at hc⊢
  ·omega
  ·exact h2
  ·exact h2
  ·exact h2
  ·exact h2
  ·exact h2
  ·omega
theorem Ob.g9{S:aD}{cs:List aS}(hw:aO S cs){h:Hd}(h0:(Ob.make S cs h).2.1=0):∃a n:Nat,(Ob.make S cs h).1=a∧Ob.may cs h=0∧Sp.aw (h.n+1)=n∧h.n+1≤(n:Int)∧a+n≤S.ws.length∧(Ob.make S cs h).2.2.ws=(Sp.eJ S.ws a n).set a (Sp.dJ h)∧
  (∀m:Nat,Sp.find (Ob.make S cs h).2.2 m=if a≤m∧m<a+n then some (a,n)else Sp.find S m)∧(∀m:Nat,a≤m→m<a+n→Sp.find S m=none)∧aO (Ob.make S cs h).2.2 cs:=by
 unfold Ob.make at h0⊢
 split at h0
 ·rename_i h1;exact absurd h0 h1
 ·rename_i h1
  rw[if_neg h1]
  have h1:Ob.may cs h=0:=by simpa using h1
  split at h0
  ·rename_i h2;exact absurd h0 h2
  ·rename_i h2
   rw[if_neg h2]
   have h2:(Sp.alloc S (h.n+1)).2.1=0:=by simpa using h2
   obtain⟨a,n,e1,e2,e3,e4,e5,e6,e7,e8⟩:=vQ hw.wf h2
   have hwa:=Sp.pX hw.wf (h.n+1)
   have hge:=DJ (w:=h.n+1) (by omega)
   have hlen:(Sp.alloc S (h.n+1)).2.2.ws.length=S.ws.length:=by rw[e6];exact lY e5
   have hfind:∀m:Nat,Sp.find ⟨(Sp.alloc S (h.n+1)).2.2.ws.set a (Sp.dJ h),(Sp.alloc S (h.n+1)).2.2.pg⟩ m=if a≤m∧m<a+n then some (a,n)else Sp.find S m:=fun m=>by
    rw[eN (by simp)];exact e7 m
   refine⟨a,n,e1,h1,e2,by omega,e5,by dsimp only;rw[e1,e6,Int.toNat_natCast],?_,e8,?_⟩
   ·dsimp only;rw[e1,Int.toNat_natCast];exact hfind
   ·dsimp only
    rw[e1,Int.toNat_natCast]
    refine⟨⟨by simp[hwa.len],hwa.gv,hwa.pos,hwa.res,hwa.small,hwa.head,hwa.tail⟩,fun m w hf=> ?_,hw.cls,hw.refs⟩
    rw[hfind]at hf
    dsimp only
    by_cases hm:a≤m∧m<a+n
    ·rw[if_pos hm]at hf
     injection hf with hf;injection hf with f1 f2
     subst f1;subst f2
     exact⟨h,(Ob.jD h1).1,by rw[eL (by omega)],by omega⟩
    ·rw[if_neg hm]at hf
     obtain⟨hd,g1,g2,g3⟩:=hw.obj m w hf
     refine⟨hd,g1,?_,g3⟩
     rw[cK (by omega),e6,o9 e5,if_neg hm];exact g2
theorem aO.make{S:aD}{cs:List aS}(hw:aO S cs)(h:Hd):aO (Ob.make S cs h).2.2 cs:=by
 by_cases h0:(Ob.make S cs h).2.1=0
 ·obtain⟨_,_,_,_,_,_,_,_,_,_,r⟩:=Ob.g9 hw h0
  exact r
 ·unfold Ob.make at h0⊢
  split
  ·exact hw
  ·rename_i h1
   rw[if_neg h1]at h0
   split
   ·exact hw
   ·rename_i h2;rw[if_neg h2]at h0;exact absurd rfl h0
theorem kB{n:Nat}(h0:1≤n)(a:Int):Sp.find (Sp.bB n) a=none:=by
 unfold Sp.find
 split
 ·have hno:∀(i:Nat) (x:Pg),(Sp.bB n).pg[i]? =some x→x= .res∨x= .free:=fun i x h=>by
   unfold Sp.bB at h
   cases i with
   |zero=>simp at h;exact .inl h.symm
   |succ i=>simp[List.getElem?_replicate]at h;exact .inr h.2.symm
  split
  ·rename_i c l h;rcases hno _ _ h with e|e<;>cases e
  ·rw[Sp.sb fun j k h=>by rcases hno _ _ h with e|e<;>cases e];rfl
 ·rfl
theorem lL{n:Nat}(h0:1≤n)(h1:n≤256):aO (Sp.bB n) []:=
 ⟨Sp.qV h0 h1,fun m w h=>by(rw[kB h0]at h;cases h),by simp,by simp⟩
theorem pG(S:aD)(a i x:Int):∃ws',(Ob.put S a i x).2=⟨ws',S.pg⟩∧ws'.length=S.ws.length:=by
 unfold Ob.put
 split
 ·exact⟨S.ws,rfl,rfl⟩
 ·exact⟨_,rfl,by simp⟩
theorem Ob.da{S:aD}{a i:Int}{h:Hd}(hh:Ob.head S a=some h)(h0:0≤i)(h1:i<h.n):Ob.get S a i=(S.ws.getD (a+1+i).toNat 0,0):=by
 have e:Ob.fieldAt S a i=(a+1+i,0):=by unfold Ob.fieldAt;rw[hh];dsimp only;rw[if_neg (by rintro(h|h)<;>omega)]
 unfold Ob.get;rw[e,if_neg (by simp)]
theorem Ob.eA{S:aD}{cs:List aS}(hw:aO S cs){h:Hd}(h0:(Ob.make S cs h).2.1=0):Ob.head (Ob.make S cs h).2.2 (Ob.make S cs h).1=some h:=by
 obtain⟨a,n,e1,e2,e3,e4,e5,e6,e7,e8,e9⟩:=Ob.g9 hw h0
 have hb:=Sp.bU (Ob.jD e2).1
 have hf:Sp.find (Ob.make S cs h).2.2 a=some (a,n):=by rw[e7 a,if_pos ⟨by omega,by omega⟩]
 unfold Ob.head
 rw[e1,hf]
 dsimp only
 rw[if_pos rfl,e6,eL (by rw[lY e5];omega),Sp.gN (Ob.jD e2).1]
theorem Ob.kX{S:aD}{cs:List aS}(hw:aO S cs){h:Hd}(h0:(Ob.make S cs h).2.1=0){i:Int}(i0:0≤i)(i1:i<h.n):Ob.get (Ob.make S cs h).2.2 (Ob.make S cs h).1 i=(0,0):=by
 rw[Ob.da (Ob.eA hw h0) i0 i1]
 obtain⟨a,n,e1,e2,e3,e4,e5,e6,e7,e8,e9⟩:=Ob.g9 hw h0
 rw[e1,e6,cK (by omega),o9 e5,if_pos ⟨by omega,by omega⟩]
end Go.Proofs.YtfepdmpplahloaaGreat
