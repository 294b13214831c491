/- Obj Obj2 Obj3 Obj4 Law. -/
import Derived.Test.YtfepdmpplahloaaGreatGsSpace8
set_option linter.unusedSimpArgs false
set_option linter.unusedVariables false
namespace Go.Proofs.YtfepdmpplahloaaGreat
open Go Go.Gl
variable{ρ0 ρ:FR}{L L':List Asn}{Post:Value→List Asn→Prop}{T:Tree}
def Sp.getH(x:Int):Hd:=⟨Int.tmod x 8,Int.tdiv (Int.tmod x 65536) 16,Int.tdiv x 65536,Int.tmod (Int.tdiv x 8) 2==1⟩
theorem Sp.getH_put{h:Hd}(hm:Sp.mayH h=true):Sp.getH (Sp.putH h)=h:=by
 obtain⟨g1,g2,g3,g4,_⟩:=Sp.putH_get hm
 unfold Sp.getH
 rw[g1,g2,g3,g4]
structure HWf(S:Spc)(cs:List Cls):Prop where
 wf:Wf S
 obj:∀n w:Nat,Sp.find S n=some (n,w)→∃h:Hd,Sp.mayH h=true∧S.ws.getD n 0=Sp.putH h∧h.n+1≤(w:Int)
 cls:cs.length≤256
 refs:∀c∈cs,c.2.length≤2^20
def HeapA(p:Nat)(S:Spc)(cs:List Cls):Asn:=fun h=>∃i:Nat×Nat,star [blk p [.pointer (some ⟨i.1,0,none⟩),.pointer (some ⟨i.2,0,none⟩)],SpaceA i.1 S,TableA i.2 cs] h
theorem HeapA.op{p:Nat}{S:Spc}{cs:List Cls}(t:Take L (HeapA p S cs) L')(h:∀ps pt:Nat,Tr ρ0 ρ (blk p [.pointer (some ⟨ps,0,none⟩),.pointer (some ⟨pt,0,none⟩)]::SpaceA ps S::TableA pt cs::L') T Post):Tr ρ0 ρ L T Post:=
 Tr.openL (M:=fun i:Nat×Nat=>[blk p [.pointer (some ⟨i.1,0,none⟩),.pointer (some ⟨i.2,0,none⟩)],SpaceA i.1 S,TableA i.2 cs]) (c:=fun _=>True) t (fun _ ⟨i,h⟩=>⟨i,trivial,h⟩) fun i _=>h i.1 i.2
theorem HeapA.cl{p ps pt:Nat}{S:Spc}{cs:List Cls}(h:HP)(H:star [blk p [.pointer (some ⟨ps,0,none⟩),.pointer (some ⟨pt,0,none⟩)],SpaceA ps S,TableA pt cs] h):HeapA p S cs h:=⟨(ps,pt),H⟩
theorem object_new(n:Int)(h0:1≤n)(h1:n≤256):Gl.Spec ρ Tryz.prog 34 [i64 n] [] PE
  fun r M=>∃b,r=(some ⟨b,0,none⟩,0,())∧M=[HeapA b (Sp.newSpc n.toNat) []]:=by
 refine Spec.of (fun Q w h=>F.object.New.calls n h) fun R=> ?_
 unfold F.object.New
 try simp only[lca,lna]
 refine en_call (space_new n h0 h1) tks ?_
 rintro x M ⟨ps,rfl,rfl⟩
 try simp only[lca,lna]
 refine en_brf rfl ?_
 refine en_call (class_new) tks ?_
 rintro x M ⟨pt,rfl,rfl⟩
 try simp only[lca,lna]
 refine en_nw fun b=> ?_
 refine Tr.close (M:=[blk b [.pointer (some ⟨ps,0,none⟩),.pointer (some ⟨pt,0,none⟩)],SpaceA ps (Sp.newSpc n.toNat),TableA pt []]) tks (HeapA.cl (p:=b)) ?_
 exact en_rets (x:=(some ⟨b,0,none⟩,0,())) rfl ⟨b,rfl,rfl⟩ tks ens
def Sp.clsAt(cs:List Cls)(c:Int):Option Cls:=if 1≤c∧c≤cs.length then cs[(c-1).toNat]? else none
theorem Sp.clsAt_some{cs:List Cls}{c:Int}{x:Cls}(h:Sp.clsAt cs c=some x):∃i:Nat,c=i+1∧cs[i]? =some x:=by
 unfold Sp.clsAt at h
 split at h
 ·exact⟨(c-1).toNat,by omega,h⟩
 ·cases h
theorem Sp.clsAt_none{cs:List Cls}{c:Int}(h:Sp.clsAt cs c=none):¬(1≤c∧c≤cs.length):=by
 intro hc
 unfold Sp.clsAt at h
 rw[if_pos hc,List.getElem?_eq_none_iff]at h
 omega
def Ob.may(cs:List Cls)(h:Hd):Int:=
 if Sp.mayH h=false∨h.f=true then 1 else if h.k≠1 then 0 else
  match Sp.clsAt cs h.c with |some c=>if c.1≠h.n then 1 else 0|none=>2
theorem zcC:zc Tryz.prog 141=[.int .i64 0,.slice none 0 0]:=by kernel_rfl
theorem zcH:zc Tryz.prog 103=[.int .i64 0,.int .i64 0,.int .i64 0,.bool false]:=by kernel_rfl
theorem object_may(p:Nat)(S:Spc)(cs:List Cls)(hw:HWf S cs)(h:Hd):Gl.Spec ρ Tryz.prog 156 [.pointer (some ⟨p,0,none⟩),hval h] [HeapA p S cs] R1
  fun r M=>r=Ob.may cs h∧M=[HeapA p S cs]:=by
 have hcs:=hw.cls
 refine Spec.of (fun Q w hh=>F.object.Heap.may.calls (some ⟨p,0,none⟩) h.t hh) fun R=> ?_
 obtain⟨k,c,n,f⟩:=h
 unfold F.object.Heap.may
 try simp only[lca,lna]
 refine en_nw fun b1=> ?_
 refine en_ldg (b:=b1) (x:=(k,c,n,f,())) [] rfl tk rfl ?_
 refine en_call (head_may ⟨k,c,n,f⟩) tks ?_
 rintro x M ⟨rfl,rfl⟩
 try simp only[lca,lna]
 refine en_br (fun h1=> ?_) (fun h1=> ?_)
 ·have h1:Sp.mayH ⟨k,c,n,f⟩=false:=by simpa using h1
  have e:Ob.may cs ⟨k,c,n,f⟩=1:=by unfold Ob.may;rw[if_pos (.inl h1)]
  rw[e]
  exact en_rets (x:=(1:Int)) rfl ⟨rfl,rfl⟩ tks ens
 ·have h1:Sp.mayH ⟨k,c,n,f⟩=true:=by simpa using h1
  refine en_ld (k:= .bool) (x:=f) (by rw[fa_mk]) tk rfl ?_
  refine en_br (fun h2=> ?_) (fun h2=> ?_)
  ·have e:Ob.may cs ⟨k,c,n,f⟩=1:=by unfold Ob.may;rw[if_pos (.inr h2)]
   rw[e]
   exact en_rets (x:=(1:Int)) rfl ⟨rfl,rfl⟩ tks ens
  ·refine en_ld (k:= .int .i64) (x:=k) (by rw[fa_mk]) tk rfl ?_
   have e0:Ob.may cs ⟨k,c,n,f⟩=if k≠1 then 0 else match Sp.clsAt cs c with |some c=>if c.1≠n then 1 else 0|none=>2:=by
    unfold Ob.may;rw[if_neg (by rintro(h|h)<;>first |(rw[h1]at h;cases h)|(rw[h2]at h;cases h))]
   refine en_br (fun h3=> ?_) (fun h3=> ?_)
   ·have h3:k≠1:=by simpa using h3
    rw[e0,if_pos h3]
    exact en_rets (x:=(0:Int)) rfl ⟨rfl,rfl⟩ tks ens
   ·have h3:¬k≠1:=by simpa using h3
    rw[if_neg h3]at e0
    refine HeapA.op tk fun ps pt=> ?_
    refine en_drw (en_held [blk p [.pointer (some ⟨ps,0,none⟩),.pointer (some ⟨pt,0,none⟩)],blk b1 [.int .i64 k,.int .i64 c,.int .i64 n,.bool f]] tks ?_)
    refine en_nn (en_ldS (k:= .ptr) (x:=some ⟨pt,0,none⟩) (by rw[fa_mk]) tk rfl ?_)
    refine en_ldS (k:= .int .i64) (b:=b1) (x:=c) (by rw[fa_mk]) tk rfl ?_
    cases hc:Sp.clsAt cs c with
    |none=>
     rw[hc]at e0
     rw[e0]
     have hcn:=Sp.clsAt_none hc
     refine en_both ?_ ?_
     ·refine en_call (class_class0 pt cs c hcn) tks ?_
      rintro x M ⟨rfl,rfl⟩
      try simp only[lca,lna]
      first |refine en_chk tks ?_|skip
      refine en_nw fun b2=> ?_
      rw[zcC]
      first |refine en_chk tks ?_|skip
      refine en_st (b:=b2) (off:=0) rfl tk (by simp) rfl ?_
      first |refine en_chk tks ?_|skip
      refine en_brt rfl ?_
      refine Tr.close tks (HeapA.cl (p:=p) (ps:=ps) (pt:=pt) (S:=S) (cs:=cs)) ?_
      exact en_rets (x:=(2:Int)) rfl ⟨rfl,rfl⟩ tks ens
     ·refine en_nw fun b2=> ?_
      rw[zcC]
      first |refine en_chk tks ?_|skip
      refine en_call (class_class0 pt cs c hcn) tks ?_
      rintro x M ⟨rfl,rfl⟩
      try simp only[lca,lna]
      first |refine en_chk tks ?_|skip
      refine en_st (b:=b2) (off:=0) rfl tk (by simp) rfl ?_
      first |refine en_chk tks ?_|skip
      refine en_brt rfl ?_
      refine Tr.close tks (HeapA.cl (p:=p) (ps:=ps) (pt:=pt) (S:=S) (cs:=cs)) ?_
      exact en_rets (x:=(2:Int)) rfl ⟨rfl,rfl⟩ tks ens
    |some cl=>
     rw[hc]at e0
     dsimp only at e0
     rw[e0]
     obtain⟨i,rfl,hci⟩:=Sp.clsAt_some hc
     have hrl:=hw.refs cl (List.mem_of_getElem? hci)
     have fin:∀{ρ':FR} {L:List Asn} (b2:Nat) (q:Slc) (_:Le ρ ρ') (_:∃L2,Takes L [blk b2 [.int .i64 cl.1,.slice q.a q.n q.c],blk b1 [.int .i64 k,.int .i64 (i+1),.int .i64 n,.bool f],blk p [.pointer (some ⟨ps,0,none⟩),.pointer (some ⟨pt,0,none⟩)],SpaceA ps S,TableA pt cs] L2∧Gl.Ends L2 R),
       Tr ρ ρ' L (ldL (.int .i64) (fa ⟨b2,0,none⟩ 0) fun x12:Int=>ldL (.int .i64) (fa ⟨b1,0,none⟩ 2) fun x13:Int=>br (x12 != x13) (ret (.int .i64 1)) (ret (.int .i64 0))) (SP R1 (fun r M=>r=(if cl.1≠n then 1 else 0)∧M=[HeapA p S cs]) R):=by
      rintro ρ' L b2 q hle ⟨L2,ht,he⟩
      refine Tr.perm ht.perm ?_
      try simp only[lca,lna]
      refine en_ld (k:= .int .i64) (b:=b2) (x:=cl.1) (by rw[fa_mk]) tk rfl ?_
      refine en_ld (k:= .int .i64) (b:=b1) (x:=n) (by rw[fa_mk]) tk rfl ?_
      refine Tr.close tks (HeapA.cl (p:=p) (ps:=ps) (pt:=pt) (S:=S) (cs:=cs)) ?_
      refine en_br (fun h5=> ?_) (fun h5=> ?_)
      ·rw[if_pos (by simpa using h5)]
       exact en_rets (x:=(1:Int)) rfl ⟨rfl,rfl⟩ tks (.skip (.skip he))
      ·rw[if_neg (by simpa using h5)]
       exact en_rets (x:=(0:Int)) rfl ⟨rfl,rfl⟩ tks (.skip (.skip he))
     refine en_both ?_ ?_
     ·refine en_call (class_class pt cs i cl hci hcs (by omega)) tks ?_
      rintro x M ⟨q,rfl,hq,rfl⟩
      try simp only[lca,lna]
      first |refine en_chk tks ?_|skip
      refine en_nw fun b2=> ?_
      rw[zcC]
      first |refine en_chk tks ?_|skip
      refine en_st (b:=b2) (off:=0) rfl tk (by simp) rfl ?_
      first |refine en_chk tks ?_|skip
      refine en_brf rfl ?_
      exact fin b2 q (Le.refl _) ⟨_,tks,ens⟩
     ·refine en_nw fun b2=> ?_
      rw[zcC]
      first |refine en_chk tks ?_|skip
      refine en_call (class_class pt cs i cl hci hcs (by omega)) tks ?_
      rintro x M ⟨q,rfl,hq,rfl⟩
      try simp only[lca,lna]
      first |refine en_chk tks ?_|skip
      refine en_st (b:=b2) (off:=0) rfl tk (by simp) rfl ?_
      first |refine en_chk tks ?_|skip
      refine en_brf rfl ?_
      exact fin b2 q (Le.refl _) ⟨_,tks,ens⟩
end Go.Proofs.YtfepdmpplahloaaGreat
namespace Go.Proofs.YtfepdmpplahloaaGreat
open Go Go.Gl
variable{ρ0 ρ:FR}{L L':List Asn}{Post:Value→List Asn→Prop}{T:Tree}
theorem space_store(ps:Nat)(S:Spc)(a x:Int){T:Tree}{k:Int→Tree}(ha:0≤a∧a<S.ws.length)(t:Take L (SpaceA ps S) L')
  (h:Tr ρ0 ρ (SpaceA ps ⟨S.ws.set a.toNat x,S.pg⟩::L') (k 0) Post):
  Tr ρ0 ρ L (nn (some ⟨ps,0,none⟩) fun a3=>ldL .ptr (fa a3 0) fun x4:Option Addr=>call Tryz.prog 125 [.pointer x4,.int .i64 a,.int .i64 x] R1 k) Post:=by
 refine Tr.take t ?_
 refine en_nn (SpaceA.op .here fun pa pp ms ml ls ll hS hL nS nL=> ?_)
 refine en_ld (k:= .ptr) (x:=some ⟨pa,0,none⟩) (by rw[fa_mk]) tk rfl ?_
 refine en_call (arena_store pa S.ws a x) tks ?_
 rintro r M ⟨rfl,rfl⟩
 try simp only[lca,lna]
 have e1:Sp.storeE S.ws a=0:=by unfold Sp.storeE;rw[if_pos ha]
 have e2:Sp.store S.ws a x=S.ws.set a.toNat x:=by unfold Sp.store;rw[if_pos ha]
 rw[e1,e2]
 refine Tr.close tks (SpaceA.cl (p:=ps) (pa:=pa) (pp:=pp) (ms:=ms) (ml:=ml) (S:=⟨S.ws.set a.toNat x,S.pg⟩) hS hL) ?_
 exact h
theorem space_load(ps:Nat)(S:Spc)(a:Int){k:RT P2→Tree}(ha:0≤a∧a<S.ws.length)(t:Take L (SpaceA ps S) L')
  (h:Tr ρ0 ρ (SpaceA ps S::L') (k (S.ws.getD a.toNat 0,0,())) Post):
  Tr ρ0 ρ L (nn (some ⟨ps,0,none⟩) fun a3=>ldL .ptr (fa a3 0) fun x4:Option Addr=>call Tryz.prog 103 [.pointer x4,.int .i64 a] P2 k) Post:=by
 refine Tr.take t ?_
 refine en_nn (SpaceA.op .here fun pa pp ms ml ls ll hS hL nS nL=> ?_)
 refine en_ld (k:= .ptr) (x:=some ⟨pa,0,none⟩) (by rw[fa_mk]) tk rfl ?_
 refine en_call (arena_load pa S.ws a) tks ?_
 rintro r M ⟨rfl,rfl⟩
 try simp only[lca,lna]
 have e1:Sp.load S.ws a=(S.ws.getD a.toNat 0,0,()):=by unfold Sp.load;rw[if_pos ha]
 rw[e1]
 refine Tr.close tks (SpaceA.cl (p:=ps) (pa:=pa) (pp:=pp) (ms:=ms) (ml:=ml) hS hL) ?_
 exact h
theorem Sp.alloc_ok{S:Spc}(hw:Wf S){w:Int}(h:(Sp.alloc S w).2.1=0):∃a n:Nat,(Sp.alloc S w).1=a∧Sp.blk w=n∧2≤n∧n≤1024∧a+n≤S.ws.length∧(Sp.alloc S w).2.2.ws=Sp.clr S.ws a n∧(Sp.alloc S w).2.2.ws.length=S.ws.length:=by
 unfold Sp.alloc at h⊢
 split at h
 ·cases h
 ·rename_i hb
  rw[if_neg hb]
  split at h
  ·rename_i h0
   rw[if_pos h0]
   rcases Sp.place_fit hw hb with hp|⟨_,a,n,ha,hn,n1,n2,n3⟩
   ·rw[hp]at h0;cases h0
   ·refine⟨a,n,ha,hn,n1,n2,n3,by dsimp only;rw[ha,hn,Int.toNat_natCast,Int.toNat_natCast],?_⟩
    dsimp only;rw[ha,hn,Int.toNat_natCast,Int.toNat_natCast];exact clr_len n3
  ·rename_i h0;exact absurd h h0
theorem Sp.alloc_err{S:Spc}{w:Int}(h:(Sp.alloc S w).2.1≠0):(Sp.alloc S w).2.2=S:=by
 unfold Sp.alloc at h⊢
 split
 ·rfl
 ·rename_i hb
  rw[if_neg hb]at h
  split
  ·rename_i h0;rw[if_pos h0]at h;exact absurd rfl h
  ·rfl
def Ob.make(S:Spc)(cs:List Cls)(h:Hd):Int×Int×Spc:=
 if Ob.may cs h≠0 then(0,Ob.may cs h,S)
 else if(Sp.alloc S (h.n+1)).2.1≠0 then(0,(Sp.alloc S (h.n+1)).2.1,S)
 else((Sp.alloc S (h.n+1)).1,0,⟨(Sp.alloc S (h.n+1)).2.2.ws.set (Sp.alloc S (h.n+1)).1.toNat (Sp.putH h),(Sp.alloc S (h.n+1)).2.2.pg⟩)
theorem Ob.may_ok{cs:List Cls}{h:Hd}(hm:Ob.may cs h=0):Sp.mayH h=true∧h.f=false:=by
 unfold Ob.may at hm
 split at hm
 ·cases hm
 ·rename_i hc
  constructor
  ·cases hh:Sp.mayH h with
   |true=>rfl
   |false=>exact absurd (.inl hh) hc
  ·cases hh:h.f with
   |false=>rfl
   |true=>exact absurd (.inr hh) hc
theorem object_make(p:Nat)(S:Spc)(cs:List Cls)(hw:HWf S cs)(h:Hd):Gl.Spec ρ Tryz.prog 120 [.pointer (some ⟨p,0,none⟩),hval h] [HeapA p S cs] P2
  fun r M=>r=((Ob.make S cs h).1,(Ob.make S cs h).2.1,())∧M=[HeapA p (Ob.make S cs h).2.2 cs]:=by
 refine Spec.of (fun Q w hh=>F.object.Heap.Make.calls (some ⟨p,0,none⟩) h.t hh) fun R=> ?_
 obtain⟨k,c,n,f⟩:=h
 unfold F.object.Heap.Make
 try simp only[lca,lna]
 refine en_nw fun b1=> ?_
 refine en_brf rfl ?_
 refine en_ldg (b:=b1) (x:=(k,c,n,f,())) [] rfl tk rfl ?_
 refine en_call (object_may p S cs hw ⟨k,c,n,f⟩) tks ?_
 rintro x M ⟨rfl,rfl⟩
 try simp only[lca,lna]
 refine en_br (fun h1=> ?_) (fun h1=> ?_)
 ·have h1:Ob.may cs ⟨k,c,n,f⟩≠0:=by simpa using h1
  have e:Ob.make S cs ⟨k,c,n,f⟩=(0,Ob.may cs ⟨k,c,n,f⟩,S):=by unfold Ob.make;rw[if_pos h1]
  rw[e]
  exact en_rets (x:=((0:Int),Ob.may cs ⟨k,c,n,f⟩,())) rfl ⟨rfl,rfl⟩ tks ens
 ·have h1:Ob.may cs ⟨k,c,n,f⟩=0:=by simpa using h1
  obtain⟨hm,hf⟩:=Ob.may_ok h1
  have hb:=Sp.mayH_is hm
  dsimp only at hb
  refine HeapA.op tk fun ps pt=> ?_
  refine en_drw (en_held [blk p [.pointer (some ⟨ps,0,none⟩),.pointer (some ⟨pt,0,none⟩)],blk b1 [.int .i64 k,.int .i64 c,.int .i64 n,.bool f]] tks ?_)
  refine en_nn (en_ldS (k:= .ptr) (x:=some ⟨ps,0,none⟩) (by rw[fa_mk]) tk rfl ?_)
  refine en_ldS (k:= .int .i64) (b:=b1) (x:=n) (by rw[fa_mk]) tk rfl ?_
  rw[wrap64 (by omega) (by omega)]
  refine en_call (space_alloc ps S hw.wf (n+1)) tks ?_
  rintro x M ⟨rfl,rfl⟩
  try simp only[lca,lna]
  refine en_br (fun h2=> ?_) (fun h2=> ?_)
  ·have h2:(Sp.alloc S (n+1)).2.1≠0:=by simpa using h2
   have e:Ob.make S cs ⟨k,c,n,f⟩=(0,(Sp.alloc S (n+1)).2.1,S):=by unfold Ob.make;rw[if_neg (by simp[h1]),if_pos h2]
   rw[e,Sp.alloc_err h2]
   refine Tr.close tks (HeapA.cl (p:=p) (ps:=ps) (pt:=pt) (S:=S) (cs:=cs)) ?_
   exact en_rets (x:=((0:Int),(Sp.alloc S (n+1)).2.1,())) rfl ⟨rfl,rfl⟩ tks ens
  ·have h2:(Sp.alloc S (n+1)).2.1=0:=by simpa using h2
   have e:Ob.make S cs ⟨k,c,n,f⟩=((Sp.alloc S (n+1)).1,0,⟨(Sp.alloc S (n+1)).2.2.ws.set (Sp.alloc S (n+1)).1.toNat (Sp.putH ⟨k,c,n,f⟩),(Sp.alloc S (n+1)).2.2.pg⟩):=by
    unfold Ob.make;rw[if_neg (by simp[h1]),if_neg (by simp[h2])]
   rw[e]
   obtain⟨a,m,ha,hm2,m1,m2,m3,m4,m5⟩:=Sp.alloc_ok hw.wf h2
   refine en_ldg (b:=b1) (x:=(k,c,n,f,())) [] rfl tk rfl ?_
   refine en_call (head_put ⟨k,c,n,f⟩) tks ?_
   rintro x M ⟨rfl,rfl⟩
   try simp only[lca,lna]
   rw[if_pos hm]
   refine en_nn ?_
   refine en_ld (k:= .ptr) (b:=p) (x:=some ⟨ps,0,none⟩) (by rw[fa_mk]) tk rfl ?_
   refine space_store ps (Sp.alloc S (n+1)).2.2 (Sp.alloc S (n+1)).1 (Sp.putH ⟨k,c,n,f⟩) (T:=bad) (by omega) tk ?_
   refine Tr.close tks (HeapA.cl (p:=p) (ps:=ps) (pt:=pt) (S:=⟨(Sp.alloc S (n+1)).2.2.ws.set (Sp.alloc S (n+1)).1.toNat (Sp.putH ⟨k,c,n,f⟩),(Sp.alloc S (n+1)).2.2.pg⟩) (cs:=cs)) ?_
   exact en_rets (x:=((Sp.alloc S (n+1)).1,(0:Int),())) rfl ⟨rfl,rfl⟩ tks ens
def Ob.head(S:Spc)(a:Int):Option Hd:=match Sp.find S a with
 |some (s,_)=>if(s:Int)=a then some (Sp.getH (S.ws.getD s 0))else none|none=>none
def Ob.headR:Option Hd→RT HE
 |some h=>(h.t,(0:Int),())|none=>(((0:Int),(0:Int),(0:Int),false,()),(2:Int),())
theorem Ob.head_is{S:Spc}{cs:List Cls}(hw:HWf S cs){a:Int}{h:Hd}(hh:Ob.head S a=some h):∃n w:Nat,a=n∧Sp.find S n=some (n,w)∧S.ws.getD n 0=Sp.putH h∧Sp.mayH h=true∧h.n+1≤w∧n+w≤S.ws.length:=by
 unfold Ob.head at hh
 split at hh
 ·rename_i s w hf
  split at hh
  ·rename_i e
   subst e
   injection hh with hh
   obtain⟨h',h1,h2,h3⟩:=hw.obj s w hf
   rw[h2,Sp.getH_put h1]at hh
   subst hh
   refine⟨s,w,rfl,hf,h2,h1,h3,?_⟩
   obtain⟨hn,hcase⟩:=Sp.find_at hw.wf hf rfl
   have hlen:=hw.wf.len
   rcases hcase with ⟨c,l,k,g1,g2,g3,g4,g5,g6,g7⟩|⟨k,g1,g2,g3⟩
   ·have hk:k<l.length:=by
     rcases Nat.lt_or_ge k l.length with c|c
     ·exact c
     ·rw[List.getD_eq_getElem?_getD,List.getElem?_eq_none c]at g5;cases g5
    have:=sz_fit g2 hk g3
    have:=getElem?_lt g1
    omega
   ·have:=(hw.wf.head _ _ g1).2.2.1
    omega
  ·cases hh
 ·cases hh
theorem object_head(p:Nat)(S:Spc)(cs:List Cls)(hw:HWf S cs)(a:Int):Gl.Spec ρ Tryz.prog 61 [.pointer (some ⟨p,0,none⟩),i64 a] [HeapA p S cs] HE
  fun r M=>r=Ob.headR (Ob.head S a)∧M=[HeapA p S cs]:=by
 refine Spec.of (fun Q w hh=>F.object.Heap.Head.calls (some ⟨p,0,none⟩) a hh) fun R=> ?_
 unfold F.object.Heap.Head
 try simp only[lca,lna]
 refine en_nw fun b1=> ?_
 rw[zcH]
 refine en_brf rfl (en_nn (HeapA.op tk fun ps pt=> ?_))
 refine en_ld (k:= .ptr) (b:=p) (x:=some ⟨ps,0,none⟩) (by rw[fa_mk]) tk rfl ?_
 refine en_call (space_find ps S hw.wf a) tks ?_
 rintro x M ⟨rfl,rfl⟩
 try simp only[lca,lna]
 cases hf:Sp.find S a with
 |none=>
  have e:Ob.head S a=none:=by unfold Ob.head;rw[hf]
  rw[e]
  refine en_brt rfl ?_
  refine en_st (b:=b1) (off:=0) rfl tk (by simp) rfl ?_
  refine en_ldg (b:=b1) (x:=((0:Int),(0:Int),(0:Int),false,())) [] rfl tk rfl ?_
  refine Tr.close tks (HeapA.cl (p:=p) (ps:=ps) (pt:=pt) (S:=S) (cs:=cs)) ?_
  exact en_rets (x:=Ob.headR none) rfl ⟨rfl,rfl⟩ tks ens
 |some x=>
  obtain⟨s,w⟩:=x
  refine en_brf rfl (en_br (fun h=> ?_) (fun h=> ?_))
  ·have h:¬(s:Int)=a:=by simpa[Sp.found]using h
   have e:Ob.head S a=none:=by unfold Ob.head;rw[hf];dsimp only;rw[if_neg h]
   rw[e]
   refine en_st (b:=b1) (off:=0) rfl tk (by simp) rfl ?_
   refine en_ldg (b:=b1) (x:=((0:Int),(0:Int),(0:Int),false,())) [] rfl tk rfl ?_
   refine Tr.close tks (HeapA.cl (p:=p) (ps:=ps) (pt:=pt) (S:=S) (cs:=cs)) ?_
   exact en_rets (x:=Ob.headR none) rfl ⟨rfl,rfl⟩ tks ens
  ·have h:(s:Int)=a:=by simpa[Sp.found]using h
   have e:Ob.head S a=some (Sp.getH (S.ws.getD s 0)):=by unfold Ob.head;rw[hf];dsimp only;rw[if_pos h]
   obtain⟨n,w',rfl,g1,g2,g3,g4,g5⟩:=Ob.head_is hw e
   have hsn:s=n:=by omega
   subst hsn
   rw[e]
   generalize Sp.getH (S.ws.getD s 0)=hd at g2 g3 g4⊢
   have hb:=Sp.mayH_is g3
   refine en_nn ?_
   refine en_ld (k:= .ptr) (b:=p) (x:=some ⟨ps,0,none⟩) (by rw[fa_mk]) tk rfl ?_
   refine space_load ps S (s:Int) (by omega) tk ?_
   rw[Int.toNat_natCast,g2]
   refine en_brf rfl ?_
   refine en_call (head_get hd g3) tks ?_
   rintro x M ⟨rfl,rfl⟩
   try simp only[lca,lna]
   refine en_nw fun b2=> ?_
   refine en_st (b:=b2) (off:=0) rfl tk (by simp) rfl (en_brf rfl ?_)
   refine en_ldg (b:=b2) (x:=hd.t) [] rfl tk rfl ?_
   refine en_st (b:=b1) (off:=0) rfl tk (by simp) rfl ?_
   refine en_ldg (b:=b1) (x:=hd.t) [] rfl tk rfl ?_
   refine Tr.close tks (HeapA.cl (p:=p) (ps:=ps) (pt:=pt) (S:=S) (cs:=cs)) ?_
   exact en_rets (x:=Ob.headR (some hd)) rfl ⟨rfl,rfl⟩ tks ens
def Ob.fieldAt(S:Spc)(a i:Int):Int×Int:=match Ob.head S a with
 |none=>(0,2)|some h=>if i<0∨i≥h.n then(0,1)else(a+1+i,0)
theorem Ob.fieldAt_ok{S:Spc}{cs:List Cls}(hw:HWf S cs){a i:Int}(h:(Ob.fieldAt S a i).2=0):∃hd,Ob.head S a=some hd∧0≤i∧i<hd.n∧(Ob.fieldAt S a i).1=a+1+i∧0≤a∧a+1+i<S.ws.length:=by
 unfold Ob.fieldAt at h⊢
 cases hh:Ob.head S a with
 |none=>rw[hh]at h;cases h
 |some hd=>
  rw[hh]at h
  dsimp only at h⊢
  split at h
  ·cases h
  ·rename_i hc
   obtain⟨n,w,rfl,_,_,_,g4,g5⟩:=Ob.head_is hw hh
   rw[if_neg hc]
   exact⟨hd,rfl,by omega,by omega,rfl,by omega,by omega⟩
theorem object_field(p:Nat)(S:Spc)(cs:List Cls)(hw:HWf S cs)(a i:Int):Gl.Spec ρ Tryz.prog 105 [.pointer (some ⟨p,0,none⟩),i64 a,i64 i] [HeapA p S cs] P2
  fun r M=>r=((Ob.fieldAt S a i).1,(Ob.fieldAt S a i).2,())∧M=[HeapA p S cs]:=by
 have hm:=hw.wf.most
 have hl:=hw.wf.len
 refine Spec.of (fun Q w hh=>F.object.Heap.field.calls (some ⟨p,0,none⟩) a i hh) fun R=> ?_
 unfold F.object.Heap.field
 try simp only[lca,lna]
 refine en_call (object_head p S cs hw a) tks ?_
 rintro x M ⟨rfl,rfl⟩
 try simp only[lca,lna]
 refine en_nw fun b2=> ?_
 rw[zcH]
 cases hh:Ob.head S a with
 |none=>
  have e:Ob.fieldAt S a i=(0,2):=by unfold Ob.fieldAt;rw[hh]
  rw[e]
  refine en_st (b:=b2) (off:=0) rfl tk (by simp) rfl (en_brt rfl ?_)
  exact en_rets (x:=((0:Int),(2:Int),())) rfl ⟨rfl,rfl⟩ tks ens
 |some hd=>
  obtain⟨n,w,rfl,_,_,g3,g4,g5⟩:=Ob.head_is hw hh
  have hb:=Sp.mayH_is g3
  refine en_st (b:=b2) (off:=0) rfl tk (by simp) rfl (en_brf rfl ?_)
  refine en_br (fun h1=> ?_) (fun h1=> ?_)
  ·have h1:=of_decide_eq_true h1
   have e:Ob.fieldAt S n i=(0,1):=by unfold Ob.fieldAt;rw[hh];dsimp only;rw[if_pos (.inl h1)]
   rw[e]
   exact en_rets (x:=((0:Int),(1:Int),())) rfl ⟨rfl,rfl⟩ tks ens
  ·have h1:=of_decide_eq_false h1
   refine en_ld (k:= .int .i64) (b:=b2) (off:=2) (x:=hd.n) (by rw[fa_mk]) tk rfl ?_
   refine en_br (fun h2=> ?_) (fun h2=> ?_)
   ·have h2:=of_decide_eq_true h2
    have e:Ob.fieldAt S n i=(0,1):=by unfold Ob.fieldAt;rw[hh];dsimp only;rw[if_pos (.inr h2)]
    rw[e]
    exact en_rets (x:=((0:Int),(1:Int),())) rfl ⟨rfl,rfl⟩ tks ens
   ·have h2:=of_decide_eq_false h2
    have e:Ob.fieldAt S n i=((n:Int)+1+i,0):=by unfold Ob.fieldAt;rw[hh];dsimp only;rw[if_neg (by rintro(h|h)<;>omega)]
    rw[e,wrap64 (n:=(n:Int)+1) (by omega) (by omega),wrap64 (by omega) (by omega)]
    exact en_rets (x:=((n:Int)+1+i,(0:Int),())) rfl ⟨rfl,rfl⟩ tks ens
def Ob.get(S:Spc)(a i:Int):Int×Int:=if(Ob.fieldAt S a i).2≠0 then(0,(Ob.fieldAt S a i).2)else(S.ws.getD (Ob.fieldAt S a i).1.toNat 0,0)
def Ob.put(S:Spc)(a i x:Int):Int×Spc:=if(Ob.fieldAt S a i).2≠0 then((Ob.fieldAt S a i).2,S)else(0,⟨S.ws.set (Ob.fieldAt S a i).1.toNat x,S.pg⟩)
theorem object_get(p:Nat)(S:Spc)(cs:List Cls)(hw:HWf S cs)(a i:Int):Gl.Spec ρ Tryz.prog 62 [.pointer (some ⟨p,0,none⟩),i64 a,i64 i] [HeapA p S cs] P2
  fun r M=>r=((Ob.get S a i).1,(Ob.get S a i).2,())∧M=[HeapA p S cs]:=by
 refine Spec.of (fun Q w hh=>F.object.Heap.Field.calls (some ⟨p,0,none⟩) a i hh) fun R=> ?_
 unfold F.object.Heap.Field
 try simp only[lca,lna]
 refine en_call (object_field p S cs hw a i) tks ?_
 rintro x M ⟨rfl,rfl⟩
 try simp only[lca,lna]
 refine en_br (fun h=> ?_) (fun h=> ?_)
 ·have h:(Ob.fieldAt S a i).2≠0:=by simpa using h
  have e:Ob.get S a i=(0,(Ob.fieldAt S a i).2):=by unfold Ob.get;rw[if_pos h]
  rw[e]
  exact en_rets (x:=((0:Int),(Ob.fieldAt S a i).2,())) rfl ⟨rfl,rfl⟩ tks ens
 ·have h:(Ob.fieldAt S a i).2=0:=by simpa using h
  have e:Ob.get S a i=(S.ws.getD (Ob.fieldAt S a i).1.toNat 0,0):=by unfold Ob.get;rw[if_neg (by simp[h])]
  obtain⟨hd,h1,h2,h3,h4,h5,h6⟩:=Ob.fieldAt_ok hw h
  rw[e]
  refine en_nn (HeapA.op tk fun ps pt=> ?_)
  refine en_ld (k:= .ptr) (b:=p) (x:=some ⟨ps,0,none⟩) (by rw[fa_mk]) tk rfl ?_
  refine space_load ps S (Ob.fieldAt S a i).1 (by omega) tk ?_
  refine Tr.close tks (HeapA.cl (p:=p) (ps:=ps) (pt:=pt) (S:=S) (cs:=cs)) ?_
  exact en_rets (x:=(S.ws.getD (Ob.fieldAt S a i).1.toNat 0,(0:Int),())) rfl ⟨rfl,rfl⟩ tks ens
theorem object_put(p:Nat)(S:Spc)(cs:List Cls)(hw:HWf S cs)(a i x:Int):Gl.Spec ρ Tryz.prog 81 [.pointer (some ⟨p,0,none⟩),i64 a,i64 i,i64 x] [HeapA p S cs] R1
  fun r M=>r=(Ob.put S a i x).1∧M=[HeapA p (Ob.put S a i x).2 cs]:=by
 refine Spec.of (fun Q w hh=>F.object.Heap.Put.calls (some ⟨p,0,none⟩) a i x hh) fun R=> ?_
 unfold F.object.Heap.Put
 try simp only[lca,lna]
 refine en_call (object_field p S cs hw a i) tks ?_
 rintro x' M ⟨rfl,rfl⟩
 try simp only[lca,lna]
 refine en_br (fun h=> ?_) (fun h=> ?_)
 ·have h:(Ob.fieldAt S a i).2≠0:=by simpa using h
  have e:Ob.put S a i x=((Ob.fieldAt S a i).2,S):=by unfold Ob.put;rw[if_pos h]
  rw[e]
  exact en_rets (x:=(Ob.fieldAt S a i).2) rfl ⟨rfl,rfl⟩ tks ens
 ·have h:(Ob.fieldAt S a i).2=0:=by simpa using h
  have e:Ob.put S a i x=(0,⟨S.ws.set (Ob.fieldAt S a i).1.toNat x,S.pg⟩):=by unfold Ob.put;rw[if_neg (by simp[h])]
  obtain⟨hd,h1,h2,h3,h4,h5,h6⟩:=Ob.fieldAt_ok hw h
  rw[e]
  refine en_nn (HeapA.op tk fun ps pt=> ?_)
  refine en_ld (k:= .ptr) (b:=p) (x:=some ⟨ps,0,none⟩) (by rw[fa_mk]) tk rfl ?_
  refine space_store ps S (Ob.fieldAt S a i).1 x (T:=bad) (by omega) tk ?_
  refine Tr.close tks (HeapA.cl (p:=p) (ps:=ps) (pt:=pt) (S:=⟨S.ws.set (Ob.fieldAt S a i).1.toNat x,S.pg⟩) (cs:=cs)) ?_
  exact en_rets (x:=(0:Int)) rfl ⟨rfl,rfl⟩ tks ens
end Go.Proofs.YtfepdmpplahloaaGreat
namespace Go.Proofs.YtfepdmpplahloaaGreat
open Go Go.Gl
variable{ρ0 ρ:FR}{L L':List Asn}{Post:Value→List Asn→Prop}{T:Tree}
def Sp.upto(n:Nat):List Int:=(List.range n).map fun j:Nat=>(j:Int)
theorem object_all(n:Nat)(hn:n<2^40):Gl.Spec ρ Tryz.prog 158 [i64 n] [] RS fun r M=>r.n=n∧M=[SLc r 1 ((Sp.upto n).map i64)]:=by
 refine Spec.of (fun Q w h=>F.object.all.calls n h) fun R=> ?_
 unfold F.object.all
 try simp only[lca,lna]
 refine Tr.nilSL 1 ?_
 refine en_lp (fun m s M=>(fun(s:Slc) (j:Int)=>M=SLc s 1 ((Sp.upto j.toNat).map i64)::R∧0≤j∧j≤n∧s.n=j.toNat∧m=n-j.toNat) s.1 s.2.1) n ?_ ?_
 ·exact⟨rfl,by simp,by dsimp only;omega,rfl,by simp⟩
 ·rintro m ⟨(s:Slc),(j:Int),⟨⟩⟩ M ⟨rfl,h0,h1,hs,rfl⟩ X hX
  dsimp only at*
  refine en_br (fun h=> ?_) (fun h=> ?_)
  ·replace h:j<(n:Int):=of_decide_eq_true h
   refine en_nw fun b=> ?_
   rw[wrap64 (by omega) (by omega)]
   refine en_app (x:=⟨some ⟨b,0,none⟩,1,1⟩) (ys:=[i64 j]) appInt tk (Rd.cl tk rfl rfl) rfl (by rw[hs];dsimp only;omega) (by rw[hs];dsimp only;omega) fun r hr=> ?_
   have e:(Sp.upto j.toNat).map i64++[i64 j]=(Sp.upto (j+1).toNat).map i64:=by
    rw[show(j+1).toNat=j.toNat+1 by omega,Sp.upto,Sp.upto,List.range_succ]
    simp;omega
   rw[e]
   refine Tr.drop (A:=blk b [i64 j]) tk ?_
   exact hX (n-(j+1).toNat) _ _ (by omega) ⟨rfl,by dsimp only;omega,by dsimp only;omega,by dsimp only;rw[hr,hs];show _+1=_;omega,rfl⟩
  ·replace h:¬j<(n:Int):=of_decide_eq_false h
   have:j.toNat=n:=by omega
   rw[this]at hs⊢
   exact en_rets (x:=s) rfl ⟨hs,rfl⟩ tks ens
def Ob.refs(S:Spc)(cs:List Cls)(a:Int):List Int:=match Ob.head S a with
 |none=>[]
 |some h=>if h.k=1 then(match Sp.clsAt cs h.c with |some c=>c.2|none=>[])else if h.k=2 then Sp.upto h.n.toNat else if h.k=4 then[2]else[]
theorem object_refs(p:Nat)(S:Spc)(cs:List Cls)(hw:HWf S cs)(a:Int):Gl.Spec ρ Tryz.prog 123 [.pointer (some ⟨p,0,none⟩),i64 a] [HeapA p S cs] RS
  fun r M=>r.n=(Ob.refs S cs a).length∧M=[SLc r 1 ((Ob.refs S cs a).map i64),HeapA p S cs]:=by
 have hcs:=hw.cls
 refine Spec.of (fun Q w hh=>F.object.Heap.Refs.calls (some ⟨p,0,none⟩) a hh) fun R=> ?_
 unfold F.object.Heap.Refs
 try simp only[lca,lna]
 refine en_call (object_head p S cs hw a) tks ?_
 rintro x M ⟨rfl,rfl⟩
 try simp only[lca,lna]
 refine en_nw fun b2=> ?_
 rw[zcH]
 cases hh:Ob.head S a with
 |none=>
  have e:Ob.refs S cs a=[]:=by unfold Ob.refs;rw[hh]
  rw[e]
  refine en_st (b:=b2) (off:=0) rfl tk (by simp) rfl (en_brt rfl ?_)
  refine Tr.nilSL 1 ?_
  exact en_rets (x:=(⟨none,0,0⟩:Slc)) rfl ⟨rfl,rfl⟩ tks ens
 |some hd=>
  obtain⟨n,w,rfl,_,_,g3,g4,g5⟩:=Ob.head_is hw hh
  have hb:=Sp.mayH_is g3
  obtain⟨k,c,ln,f⟩:=hd
  dsimp only at*
  have e0:Ob.refs S cs n=if k=1 then(match Sp.clsAt cs c with |some c=>c.2|none=>[])else if k=2 then Sp.upto ln.toNat else if k=4 then[2]else[]:=by unfold Ob.refs;rw[hh]
  refine en_st (b:=b2) (off:=0) rfl tk (by simp) rfl (en_brf rfl ?_)
  refine en_ld (k:= .int .i64) (b:=b2) (off:=0) (x:=k) (by rw[fa_mk]) tk rfl ?_
  refine en_br (fun h1=> ?_) (fun h1=> ?_)
  ·rw[if_pos (by simpa using h1)]at e0
   refine HeapA.op tk fun ps pt=> ?_
   refine en_drw (en_held [blk p [.pointer (some ⟨ps,0,none⟩),.pointer (some ⟨pt,0,none⟩)],blk b2 [.int .i64 k,.int .i64 c,.int .i64 ln,.bool f]] tks ?_)
   refine en_nn (en_ldS (k:= .ptr) (x:=some ⟨pt,0,none⟩) (by rw[fa_mk]) tk rfl ?_)
   refine en_ldS (k:= .int .i64) (b:=b2) (x:=c) (by rw[fa_mk]) tk rfl ?_
   cases hc:Sp.clsAt cs c with
   |none=>
    rw[hc]at e0
    rw[e0]
    have hcn:=Sp.clsAt_none hc
    refine en_both ?_ ?_
    ·refine en_call (class_class0 pt cs c hcn) tks ?_
     rintro x M ⟨rfl,rfl⟩
     try simp only[lca,lna]
     first |refine en_chk tks ?_|skip
     refine en_nw fun b3=> ?_
     rw[zcC]
     first |refine en_chk tks ?_|skip
     refine en_st (b:=b3) (off:=0) rfl tk (by simp) rfl ?_
     first |refine en_chk tks ?_|skip
     refine en_ld (k:= .slice) (b:=b3) (off:=1) (x:=⟨none,0,0⟩) (by rw[fa_mk]) tk rfl ?_
     refine Tr.close tks (HeapA.cl (p:=p) (ps:=ps) (pt:=pt) (S:=S) (cs:=cs)) ?_
     refine Tr.nilSL 1 ?_
     exact en_rets (x:=(⟨none,0,0⟩:Slc)) rfl ⟨rfl,rfl⟩ tks ens
    ·refine en_nw fun b3=> ?_
     rw[zcC]
     first |refine en_chk tks ?_|skip
     refine en_call (class_class0 pt cs c hcn) tks ?_
     rintro x M ⟨rfl,rfl⟩
     try simp only[lca,lna]
     first |refine en_chk tks ?_|skip
     refine en_st (b:=b3) (off:=0) rfl tk (by simp) rfl ?_
     first |refine en_chk tks ?_|skip
     refine en_ld (k:= .slice) (b:=b3) (off:=1) (x:=⟨none,0,0⟩) (by rw[fa_mk]) tk rfl ?_
     refine Tr.close tks (HeapA.cl (p:=p) (ps:=ps) (pt:=pt) (S:=S) (cs:=cs)) ?_
     refine Tr.nilSL 1 ?_
     exact en_rets (x:=(⟨none,0,0⟩:Slc)) rfl ⟨rfl,rfl⟩ tks ens
   |some cl=>
    rw[hc]at e0
    dsimp only at e0
    rw[e0]
    obtain⟨i,rfl,hci⟩:=Sp.clsAt_some hc
    have hrl:=hw.refs cl (List.mem_of_getElem? hci)
    refine en_both ?_ ?_
    ·refine en_call (class_class pt cs i cl hci hcs (by omega)) tks ?_
     rintro x M ⟨q,rfl,hq,rfl⟩
     try simp only[lca,lna]
     first |refine en_chk tks ?_|skip
     refine en_nw fun b3=> ?_
     rw[zcC]
     first |refine en_chk tks ?_|skip
     refine en_st (b:=b3) (off:=0) rfl tk (by simp) rfl ?_
     first |refine en_chk tks ?_|skip
     refine en_ld (k:= .slice) (b:=b3) (off:=1) (x:=q) (by rw[fa_mk]) tk rfl ?_
     refine Tr.close tks (HeapA.cl (p:=p) (ps:=ps) (pt:=pt) (S:=S) (cs:=cs)) ?_
     exact en_rets (x:=(q:Slc)) rfl ⟨hq,rfl⟩ tks ens
    ·refine en_nw fun b3=> ?_
     rw[zcC]
     first |refine en_chk tks ?_|skip
     refine en_call (class_class pt cs i cl hci hcs (by omega)) tks ?_
     rintro x M ⟨q,rfl,hq,rfl⟩
     try simp only[lca,lna]
     first |refine en_chk tks ?_|skip
     refine en_st (b:=b3) (off:=0) rfl tk (by simp) rfl ?_
     first |refine en_chk tks ?_|skip
     refine en_ld (k:= .slice) (b:=b3) (off:=1) (x:=q) (by rw[fa_mk]) tk rfl ?_
     refine Tr.close tks (HeapA.cl (p:=p) (ps:=ps) (pt:=pt) (S:=S) (cs:=cs)) ?_
     exact en_rets (x:=(q:Slc)) rfl ⟨hq,rfl⟩ tks ens
  ·have h1:¬k=1:=by simpa using h1
   rw[if_neg h1]at e0
   refine en_br (fun h2=> ?_) (fun h2=> ?_)
   ·rw[if_pos (by simpa using h2)]at e0
    rw[e0]
    refine en_ld (k:= .int .i64) (b:=b2) (off:=2) (x:=ln) (by rw[fa_mk]) tk rfl ?_
    obtain⟨lnn,rfl⟩:∃m:Nat,ln=m:=⟨ln.toNat,by omega⟩
    refine en_call (object_all lnn (by omega)) tks ?_
    rintro q M ⟨hq,rfl⟩
    try simp only[lca,lna]
    rw[Int.toNat_natCast]
    exact en_rets (x:=(q:Slc)) rfl ⟨by simp[Sp.upto,hq],rfl⟩ tks ens
   ·have h2:¬k=2:=by simpa using h2
    rw[if_neg h2]at e0
    refine en_br (fun h3=> ?_) (fun h3=> ?_)
    ·rw[if_pos (by simpa using h3)]at e0
     rw[e0]
     refine en_nw fun b4=> ?_
     refine Tr.imp (A':=SLc ⟨some ⟨b4,0,none⟩,1,1⟩ 1 (([2]:List Int).map i64)) .here (SLc.of_cl rfl) ?_
     exact en_rets (x:=(⟨some ⟨b4,0,none⟩,1,1⟩:Slc)) rfl ⟨rfl,rfl⟩ tks ens
    ·have h3:¬k=4:=by simpa using h3
     rw[if_neg h3]at e0
     rw[e0]
     refine Tr.nilSL 1 ?_
     exact en_rets (x:=(⟨none,0,0⟩:Slc)) rfl ⟨rfl,rfl⟩ tks ens
end Go.Proofs.YtfepdmpplahloaaGreat
namespace Go.Proofs.YtfepdmpplahloaaGreat
open Go Go.Gl
variable{ρ0 ρ:FR}{L L':List Asn}{Post:Value→List Asn→Prop}{T:Tree}
structure Ob1 where
 a:Int
 h:Hd
 ws:List Int
def ObA(x:Ob1×Slc):Asn:=SLc x.2 1 (x.1.ws.map i64)
def obCs(x:Ob1×Slc):List Value:=[i64 x.1.a,i64 x.1.h.k,i64 x.1.h.c,i64 x.1.h.n,.bool x.1.h.f,.slice x.2.a x.2.n x.2.c]
def ObsA(s:Slc)(os:List Ob1):Asn:=fun h=>∃l:List (Ob1×Slc),(s.n=os.length∧l.map (·.1)=os∧∀x∈l,x.2.n=x.1.ws.length)∧star [SLc s 6 (l.flatMap obCs),star (l.map ObA)] h
theorem ObsA.cl{s:Slc}{l:List (Ob1×Slc)}{os:List Ob1}(h1:s.n=os.length)(h2:l.map (·.1)=os)(h3:∀x∈l,x.2.n=x.1.ws.length)(h:HP)(H:star [SLc s 6 (l.flatMap obCs),star (l.map ObA)] h):ObsA s os h:=⟨l,⟨h1,h2,h3⟩,H⟩
def RoObs(ρ:FR)(s:Slc)(os:List Ob1):Prop:=s.n=os.length∧∃l:List (Ob1×Slc),l.map (·.1)=os∧RoS ρ s 6 (l.flatMap obCs)∧∀x∈l,RoS ρ x.2 1 (x.1.ws.map i64)∧x.2.n=x.1.ws.length
theorem keepStar:∀(l:List (Ob1×Slc)) {ρ:FR} {L:List Asn} {T:Tree} (_:∀ρ',Le ρ ρ'→(∀x∈l,RoS ρ' x.2 1 (x.1.ws.map i64))→Tr ρ0 ρ' L T Post),Tr ρ0 ρ (star (l.map ObA)::L) T Post
 |[],ρ,L,T,h=>Tr.drop .here (h ρ (Le.refl _) (by simp))
 |x::l,ρ,L,T,h=>by
  refine Tr.openL (ι:=Unit) (M:=fun _=>[ObA x,star (l.map ObA)]) (c:=fun _=>True) .here (fun hp H=>⟨(),trivial,sep_mono (fun _ h=>h) (fun _=>sep_emp) H⟩) fun _ _=> ?_
  refine Tr.keepSL (s:=x.2) (m:=1) (xs:=x.1.ws.map i64) .here fun ρ' hle hro=> ?_
  refine keepStar l fun ρ'' hle2 hall=>h ρ'' (hle.trans hle2) ?_
  intro y hy
  rcases List.mem_cons.mp hy with hy|hy
  ·subst hy;exact hro.le hle2
  ·exact hall y hy
theorem Tr.keepObs{s:Slc}{os:List Ob1}(t:Take L (ObsA s os) L')(h:∀ρ',Le ρ ρ'→RoObs ρ' s os→Tr ρ0 ρ' L' T Post):Tr ρ0 ρ L T Post:=by
 refine Tr.openL (M:=fun l:List (Ob1×Slc)=>[SLc s 6 (l.flatMap obCs),star (l.map ObA)]) t (fun _ h=>h) fun l hl=> ?_
 refine Tr.keepSL (s:=s) (m:=6) (xs:=l.flatMap obCs) .here fun ρ' hle hro=> ?_
 refine keepStar l fun ρ'' hle2 hall=>h ρ'' (hle.trans hle2) ⟨hl.1,l,hl.2.1,hro.le hle2,fun x hx=>⟨hall x hx,hl.2.2 x hx⟩⟩
def Ob.at1(S:Spc)(a:Int):Ob1:=match Ob.head S a with
 |some h=>⟨a,h,(List.range h.n.toNat).map fun i:Nat=>(Ob.get S a i).1⟩|none=>⟨a,⟨0,0,0,false⟩,[]⟩
def Ob.objs(S:Spc):List Ob1:=(Sp.each S).map (Ob.at1 S)
theorem appObj:appB Tryz.prog #[44,44] 6 64=true:=by kernel_rfl
theorem zcO:zc Tryz.prog 105=[.int .i64 0,.int .i64 0,.int .i64 0,.int .i64 0,.bool false,.slice none 0 0]:=by kernel_rfl
theorem object_objects(p:Nat)(S:Spc)(cs:List Cls)(hw:HWf S cs):Gl.Spec ρ Tryz.prog 24 [.pointer (some ⟨p,0,none⟩)] [HeapA p S cs] RS
  fun r M=>M=[ObsA r (Ob.objs S),HeapA p S cs]∧r.n=(Ob.objs S).length:=by
 have hel:=Sp.each_len hw.wf
 refine Spec.of (fun Q w' h=>F.object.Heap.Objects.calls (some ⟨p,0,none⟩) h) fun R=> ?_
 unfold F.object.Heap.Objects
 try simp only[lca,lna]
 refine en_brf rfl (en_nn (HeapA.op tk fun ps pt=> ?_))
 refine en_ld (k:= .ptr) (b:=p) (x:=some ⟨ps,0,none⟩) (by rw[fa_mk]) tk rfl ?_
 refine en_call (space_each ps S hw.wf) tks ?_
 rintro s M ⟨hs,rfl⟩
 try simp only[lca,lna]
 refine Tr.close tks (HeapA.cl (p:=p) (ps:=ps) (pt:=pt) (S:=S) (cs:=cs)) ?_
 refine Tr.keepSL (s:=s) tk fun ρ' hle hro=> ?_
 refine Tr.none ?_
 refine Tr.nilSL 6 ?_
 refine en_lp (fun m u M=>(fun(t:Slc) (i:Int)=>∃l:List (Ob1×Slc),M=SLc t 6 (l.flatMap obCs)::star (l.map ObA)::HeapA p S cs::R∧0≤i∧i≤(Sp.each S).length∧m=(Sp.each S).length-i.toNat∧t.n=i.toNat∧
   l.map (·.1)=((Sp.each S).take i.toNat).map (Ob.at1 S)∧∀x∈l,x.2.n=x.1.ws.length) u.1 u.2.1) (Sp.each S).length ?_ ?_
 ·exact⟨[],rfl,by simp,by simp,by simp,rfl,by simp,by simp⟩
 ·rintro m ⟨(t:Slc),(i:Int),⟨⟩⟩ M ⟨l,rfl,h0,h1,rfl,htn,hl,hln⟩ X hX
  dsimp only at*
  refine en_br (fun h=> ?_) (fun h=> ?_)
  ·replace h:i<(s.n:Int):=of_decide_eq_true h
   have hi:i.toNat<(Sp.each S).length:=by omega
   refine en_ixRo hro h0 h fun a0 ha=> ?_
   refine en_ldRo (j:=i.toNat) (x:=(Sp.each S).getD i.toNat 0) ha hro (by rintro b o rfl;simp[fa_mk]) (getD_map hi) ?_
   have hmem:(Sp.each S).getD i.toNat 0∈Sp.each S:=by rw[List.getD_eq_getElem?_getD,List.getElem?_eq_getElem hi];exact List.getElem_mem hi
   have htk:=take_succ_getD 0 hi
   generalize(Sp.each S).getD i.toNat 0=a at hmem htk⊢
   obtain⟨n,rfl,hn,w,hf,w1,w2,w3⟩:=Sp.each_find hw.wf hmem
   obtain⟨hd,hm,hwd,hfit⟩:=hw.obj n w hf
   have hb:=Sp.mayH_is hm
   have hhd:Ob.head S n=some hd:=by unfold Ob.head;rw[hf];dsimp only;rw[if_pos rfl,hwd,Sp.getH_put hm]
   obtain⟨ln,hln2⟩:∃ln:Nat,hd.n=ln:=⟨hd.n.toNat,by omega⟩
   refine en_nw fun b8=> ?_
   rw[zcO]
   refine en_st (b:=b8) (off:=0) rfl tk (by simp) rfl ?_
   refine en_call (object_head p S cs hw (n:Int)) tks ?_
   rintro x M ⟨rfl,rfl⟩
   try simp only[lca,lna]
   rw[hhd]
   refine en_st (b:=b8) (off:=1) (by rw[fa_mk]) tk (by simp[setL]) rfl ?_
   have e8:setL (setL [.int .i64 0,.int .i64 0,.int .i64 0,.int .i64 0,.bool false,.slice none 0 0] 0 [.int .i64 (n:Int),.int .i64 0,.int .i64 0,.int .i64 0,.bool false,.slice none 0 0]) 1
     [.int .i64 (Ob.headR (some hd)).1.1,.int .i64 (Ob.headR (some hd)).1.2.1,.int .i64 (Ob.headR (some hd)).1.2.2.1,.bool (Ob.headR (some hd)).1.2.2.2.1]=[i64 n,i64 hd.k,i64 hd.c,i64 ln,.bool hd.f,.slice none 0 0]:=by
    rw[←hln2];rfl
   rw[e8]
   refine en_ld (k:= .int .i64) (b:=b8) (off:=3) (x:=(ln:Int)) (by rw[fa_mk,fa_mk]) tk rfl ?_
   refine Tr.nilSL 1 ?_
   refine Tr.take (A:=blk b8 [i64 n,i64 hd.k,i64 hd.c,i64 ln,.bool hd.f,.slice none 0 0]) tk ?_
   refine en_lp (fun m u M=>(fun(j:Int)=>∃q:Slc,M=blk b8 [i64 n,i64 hd.k,i64 hd.c,i64 ln,.bool hd.f,.slice q.a q.n q.c]::SLc q 1 (((List.range j.toNat).map fun i:Nat=>(Ob.get S n i).1).map i64)::HeapA p S cs::SLc t 6 (l.flatMap obCs)::star (l.map ObA)::R∧
     0≤j∧j≤ln∧m=ln-j.toNat∧q.n=j.toNat) u.1) ln ?_ ?_
   ·exact⟨⟨none,0,0⟩,rfl,by simp,by dsimp only;omega,by simp,rfl⟩
   ·rintro m ⟨(j:Int),⟨⟩⟩ M ⟨q,rfl,j0,j1,rfl,hq⟩ Y hY
    dsimp only at*
    refine en_br (fun h2=> ?_) (fun h2=> ?_)
    ·replace h2:j<(ln:Int):=of_decide_eq_true h2
     refine en_call (object_get p S cs hw (n:Int) j) tks ?_
     rintro x M ⟨rfl,rfl⟩
     try simp only[lca,lna]
     refine en_ld (k:= .slice) (b:=b8) (off:=5) (x:=q) (by rw[fa_mk]) tk rfl ?_
     refine en_nw fun b=> ?_
     refine en_app (s:=q) (x:=⟨some ⟨b,0,none⟩,1,1⟩) (ys:=[i64 (Ob.get S n j).1]) appInt tk (Rd.cl tk rfl rfl) rfl (by rw[hq];dsimp only;omega) (by rw[hq];dsimp only;omega) fun r hr=> ?_
     refine en_st (b:=b8) (off:=5) (by rw[fa_mk]) tk (by simp) rfl ?_
     have e:((List.range j.toNat).map fun i:Nat=>(Ob.get S n i).1).map i64++[i64 (Ob.get S n j).1]=((List.range (j+1).toNat).map fun i:Nat=>(Ob.get S n i).1).map i64:=by
      rw[show(j+1).toNat=j.toNat+1 by omega,List.range_succ,List.map_append,List.map_append]
      simp only[List.map_cons,List.map_nil]
      rw[show((j.toNat:Nat):Int)=j by omega]
     rw[e]
     refine Tr.drop (A:=blk b [i64 (Ob.get S n j).1]) tk ?_
     rw[wrap64 (by omega) (by omega)]
     exact hY (ln-(j+1).toNat) _ _ (by omega) ⟨r,rfl,by dsimp only;omega,by dsimp only;omega,rfl,by dsimp only;rw[hr,hq];show _+1=_;omega⟩
    ·replace h2:¬j<(ln:Int):=of_decide_eq_false h2
     have hjl:j.toNat=ln:=by omega
     rw[hjl]at hq⊢
     refine en_ldg (b:=b8) (x:=((n:Int),hd.k,hd.c,(ln:Int),hd.f,q,())) [] rfl tk rfl ?_
     refine en_nw fun b9=> ?_
     refine en_app (s:=t) (x:=⟨some ⟨b9,0,none⟩,1,1⟩) (ys:=[i64 n,i64 hd.k,i64 hd.c,i64 ln,.bool hd.f,.slice q.a q.n q.c]) appObj tk (Rd.cl tk rfl rfl) rfl (by rw[htn];dsimp only;omega) (by rw[htn];dsimp only;omega) fun r hr=> ?_
     have hat:Ob.at1 S n=⟨n,hd,(List.range ln).map fun i:Nat=>(Ob.get S n i).1⟩:=by
      unfold Ob.at1;rw[hhd];dsimp only;rw[hln2,Int.toNat_natCast]
     have hfl:l.flatMap obCs++[i64 n,i64 hd.k,i64 hd.c,i64 ln,.bool hd.f,.slice q.a q.n q.c]=(l++[(Ob.at1 S n,q)]).flatMap obCs:=by
      rw[List.flatMap_append,List.flatMap_cons,List.flatMap_nil,List.append_nil,hat]
      simp only[obCs,hln2]
     rw[hfl]
     refine Tr.imp (A:=star (l.map ObA)) (A':=star ((l++([]:List (Ob1×Slc))).map ObA)) tk (by simp) ?_
     have hw2:((List.range ln).map fun i:Nat=>(Ob.get S n i).1)=(Ob.at1 S n).ws:=by rw[hat]
     rw[hw2]
     refine Tr.close (A:=star ((l++[(Ob.at1 S n,q)]).map ObA)) (M:=[SLc q 1 ((Ob.at1 S n).ws.map i64),star ((l++([]:List (Ob1×Slc))).map ObA)]) tks (fun h H=>star_mid' (P:=ObA) (x:=(Ob.at1 S n,q)) h H) ?_
     refine Tr.drop (A:=blk b9 [i64 n,i64 hd.k,i64 hd.c,i64 ln,.bool hd.f,.slice q.a q.n q.c]) tk ?_
     refine Tr.drop (A:=blk b8 [i64 n,i64 hd.k,i64 hd.c,i64 ln,.bool hd.f,.slice q.a q.n q.c]) tk ?_
     refine Tr.take (A:=SLc r 6 ((l++[(Ob.at1 S n,q)]).flatMap obCs)) tk ?_
     rw[wrap64 (by omega) (by omega)]
     refine hX ((Sp.each S).length-(i+1).toNat) _ _ (by omega) ⟨l++[(Ob.at1 S n,q)],rfl,by dsimp only;omega,by dsimp only;omega,rfl,by dsimp only;rw[hr,htn];show _+1=_;omega,?_,?_⟩
     ·dsimp only
      rw[show(i+1).toNat=i.toNat+1 by omega,htk,List.map_append,List.map_append,hl];rfl
     ·intro x hx
      rcases List.mem_append.mp hx with hx|hx
      ·exact hln x hx
      ·simp only[List.mem_singleton]at hx
       subst hx
       dsimp only
       rw[←hw2,hq];simp
  ·replace h:¬i<(s.n:Int):=of_decide_eq_false h
   have hie:i.toNat=(Sp.each S).length:=by omega
   rw[hie,List.take_length]at hl
   have htl:t.n=(Ob.objs S).length:=by rw[htn,hie];simp[Ob.objs]
   refine Tr.close (M:=[SLc t 6 (l.flatMap obCs),star (l.map ObA)]) tks (ObsA.cl (os:=Ob.objs S) htl hl hln) ?_
   exact en_rets (x:=(t:Slc)) rfl ⟨rfl,htl⟩ tks ens
end Go.Proofs.YtfepdmpplahloaaGreat
namespace Go.Proofs.YtfepdmpplahloaaGreat
open Go Go.Gl
theorem getD_set_ne'{ws:List Int}{i j:Nat}{x:Int}(h:i≠j):(ws.set i x).getD j 0=ws.getD j 0:=by
 rw[List.getD_eq_getElem?_getD,List.getElem?_set_ne h,List.getD_eq_getElem?_getD]
theorem getD_set_eq'{ws:List Int}{i:Nat}{x:Int}(h:i<ws.length):(ws.set i x).getD i 0=x:=by
 simp[List.getD_eq_getElem?_getD,h]
theorem clr_getD{ws:List Int}{i n j:Nat}(h:i+n≤ws.length):(Sp.clr ws i n).getD j 0=if i≤j∧j<i+n then 0 else ws.getD j 0:=by
 unfold Sp.clr
 rw[List.getD_eq_getElem?_getD,List.getD_eq_getElem?_getD]
 rcases Nat.lt_or_ge j i with c|c
 ·rw[List.getElem?_append_left (by simp;omega),if_neg (by omega),List.getElem?_take,if_pos c]
 ·rw[List.getElem?_append_right (by simp;omega)]
  rw[show j-(ws.take i).length=j-i by simp;omega]
  rcases Nat.lt_or_ge j (i+n)with c2|c2
  ·rw[List.getElem?_append_left (by simp;omega),if_pos ⟨c,c2⟩,List.getElem?_replicate,if_pos (by omega)];rfl
  ·rw[List.getElem?_append_right (by simp;omega),if_neg (by omega),List.getElem?_drop]
   congr 2
   simp;omega
theorem own_eq{S S':Spc}(hw:Wf S)(hw':Wf S'){p:Nat}(h:∀j k:Nat,j≤p→p<j+k→(S.pg[j]? =some (.head k)↔S'.pg[j]? =some (.head k))):Sp.own S.pg p=Sp.own S'.pg p:=by
 cases h1:Sp.own S.pg p with
 |some x=>
  obtain⟨g1,g2,g3⟩:=Sp.own_is (j:=x.1) (k:=x.2) h1
  rw[Sp.own_of hw' ((h _ _ g2 g3).mp g1) ⟨g2,g3⟩]
 |none=>
  cases h2:Sp.own S'.pg p with
  |none=>rfl
  |some x=>
   obtain⟨g1,g2,g3⟩:=Sp.own_is (j:=x.1) (k:=x.2) h2
   rw[Sp.own_of hw ((h _ _ g2 g3).mpr g1) ⟨g2,g3⟩]at h1;cases h1
theorem own_free{S:Spc}(hw:Wf S){p:Nat}(h:S.pg[p]? =some .free):Sp.own S.pg p=none:=by
 refine Sp.own_no fun j k hj hp=> ?_
 rcases Nat.lt_or_ge j p with c|c
 ·have:=(hw.head _ _ hj).2.2.2 p c hp.2
  rw[h]at this;cases this
 ·have:j=p:=by omega
  subst this;rw[h]at hj;cases hj
theorem find_pg{S S':Spc}(hw:Wf S)(hw':Wf S')(hl:S'.ws.length=S.ws.length){m:Nat}(hp:S'.pg[m/64]? =S.pg[m/64]?)(ho:Sp.own S'.pg (m/64)=Sp.own S.pg (m/64)):Sp.find S' m=Sp.find S m:=by
 unfold Sp.find
 rw[hl,Int.toNat_natCast,hp,ho]
theorem find_ws{S:Spc}{ws:List Int}(hl:ws.length=S.ws.length)(a:Int):Sp.find ⟨ws,S.pg⟩ a=Sp.find S a:=by
 unfold Sp.find;rw[hl]
theorem find_alloc{S:Spc}(hw:Wf S){w:Int}(h:(Sp.alloc S w).2.1=0):∃a n:Nat,(Sp.alloc S w).1=a∧Sp.blk w=n∧2≤n∧n≤1024∧a+n≤S.ws.length∧(Sp.alloc S w).2.2.ws=Sp.clr S.ws a n∧
  (∀m:Nat,Sp.find (Sp.alloc S w).2.2 m=if a≤m∧m<a+n then some (a,n)else Sp.find S m)∧∀m:Nat,a≤m→m<a+n→Sp.find S m=none:=by
 obtain⟨a,n,h1,h2,h3,h4,h5,h6,h7⟩:=Sp.alloc_ok hw h
 have hw':=Sp.alloc_wf hw w
 have hlen:=hw.len
 refine⟨a,n,h1,h2,h3,h4,h5,h6,?_⟩
 have hb:Sp.blk w≠0:=by omega
 have hpl:(Sp.place S.pg w).2.1=0∧(Sp.alloc S w).2.2.pg=(Sp.place S.pg w).2.2∧(Sp.place S.pg w).1=(Sp.alloc S w).1:=by
  unfold Sp.alloc at h⊢
  rw[if_neg hb]at h⊢
  split at h
  ·rename_i h0;rw[if_pos h0];exact⟨h0,rfl,rfl⟩
  ·rename_i h0;exact absurd h h0
 obtain⟨p1,p2,p3⟩:=hpl
 generalize(Sp.alloc S w).2.2=S' at h6 h7 hw' p2⊢
 have hl':=hw'.len
 rcases Sp.place_cases hw hb with e|⟨i,k,_,_,k1,k2,k3,k4,k5,e⟩|⟨c,i,k,l,_,c1,c2,c3,c4,c5,c6,c7,e⟩
 ·rw[e]at p1;cases p1
 ·rw[e]at p2 p3
  dsimp only at p2 p3
  have ha:a=i*64:=by omega
  have hn:n=k*64:=by omega
  have hnone:∀m:Nat,a≤m→m<a+n→Sp.find S m=none:=fun m g1 g2=>by
   have hf:=k5 (m/64) (by omega) (by omega)
   rw[Sp.find_other (by omega) (fun c l hc=>by rw[hf]at hc;cases hc),own_free hw hf];rfl
  refine⟨fun m=> ?_,hnone⟩
  by_cases hm:a≤m∧m<a+n
  ·rw[if_pos hm]
   have hi:S'.pg[i]? =some (.head k):=by rw[p2,putL_get,if_pos (by omega),if_pos rfl]
   rw[Sp.find_other (by omega) (fun c l hc=>by
    rw[p2,putL_get,if_pos (by omega)]at hc
    split at hc
    ·cases hc
    ·rw[if_pos (by omega)]at hc;cases hc),Sp.own_of hw' hi (by omega)]
   rw[Option.map_some,ha,hn]
  ·rw[if_neg hm]
   have hoff:¬(i≤m/64∧m/64<i+k):=by omega
   refine find_pg hw hw' h7 (by rw[p2,putL_off k1 hoff]) ?_
   refine own_eq hw' hw fun j k' g1 g2=> ?_
   rw[p2]
   by_cases hj:i≤j∧j<i+k
   ·rw[k5 j hj.1 hj.2,putL_get,if_pos (by omega)]
    constructor
    ·intro hh
     split at hh
     ·rename_i e2
      injection hh with hh;injection hh with hh
      subst hh;omega
     ·rw[if_pos (by omega)]at hh;cases hh
    ·intro hh;cases hh
   ·rw[putL_off k1 hj]
 ·rw[e]at p2 p3
  dsimp only at p2 p3
  obtain⟨f1,f2,f3⟩:=sz_fit c1 c6 c5
  have ha:a=i*64+k*Sp.sz c:=by omega
  have hn:n=Sp.sz c:=by omega
  have hi':S'.pg[i]? =some (.small c (l.set k true)):=by rw[p2,set_get c3,if_pos rfl]
  have nh:∀k,S.pg[i]? ≠some (.head k):=by intro k h;rcases c4 with h'|⟨h',_⟩<;>rw[h']at h<;>cases h
  have hidx:∀m:Nat,m/64=i→((a≤m∧m<a+n)↔m%64/Sp.sz c=k):=fun m hm=>by
   rw[ha,hn]
   have hd:=Nat.div_add_mod (m%64) (Sp.sz c)
   have hlt:=Nat.mod_lt (m%64) (show 0<Sp.sz c by omega)
   constructor
   ·rintro⟨g1,g2⟩
    have hx:k*Sp.sz c≤m%64∧m%64<k*Sp.sz c+Sp.sz c:=by omega
    have:=Nat.div_le_div_right (c:=Sp.sz c) hx.1
    rw[Nat.mul_div_cancel _ (by omega)]at this
    have h2:m%64/Sp.sz c<k+1:=(Nat.div_lt_iff_lt_mul (by omega)).mpr (by rw[Nat.add_mul];omega)
    omega
   ·intro g
    rw[g]at hd
    rw[Nat.mul_comm]at hd
    omega
  have hfS:∀m:Nat,m<S.ws.length→m/64=i→Sp.find S m=if l.getD (m%64/Sp.sz c) false then some (m/64*64+m%64/Sp.sz c*Sp.sz c,Sp.sz c)else none:=fun m hml hm=>by
   rcases c4 with h'|⟨h',hl2,_⟩
   ·rw[Sp.find_small hml (by rw[hm];exact h')]
   ·rw[Sp.find_other hml (fun c l hc=>by rw[hm,h']at hc;cases hc),hm,own_free hw h',hl2]
    rw[List.getD_eq_getElem?_getD,List.getElem?_replicate]
    split<;>rfl
  refine⟨fun m=> ?_,fun m g1 g2=> ?_⟩
  ·by_cases hml:m<S.ws.length
   ·by_cases hm:m/64=i
    ·rw[Sp.find_small (by omega) (by rw[hm];exact hi'),hfS m hml hm]
     by_cases hk:m%64/Sp.sz c=k
     ·rw[if_pos ((hidx m hm).mpr hk),hk,List.getD_eq_getElem?_getD,List.getElem?_set,if_pos rfl,if_pos c6,hm,ha,hn];rfl
     ·rw[if_neg (fun h=>hk ((hidx m hm).mp h)),List.getD_eq_getElem?_getD,List.getElem?_set_ne (fun e=>hk e.symm),List.getD_eq_getElem?_getD]
    ·rw[if_neg (by omega)]
     refine find_pg hw hw' h7 (by rw[p2,set_get c3,if_neg (fun e=>hm e.symm)]) ?_
     refine own_eq hw' hw fun j k' g1 g2=> ?_
     rw[p2]
     exact(heads_set nh (fun k h=>by cases h) j k').symm
   ·rw[if_neg (by omega),Sp.find_out (by omega),Sp.find_out (by omega)]
  ·rw[hfS m (by omega) (by omega),(hidx m (by omega)).mp ⟨g1,g2⟩,c7];rfl
theorem find_in{S:Spc}(hw:Wf S){a w:Nat}(h:Sp.find S a=some (a,w)){m:Nat}(h1:a≤m)(h2:m<a+w):Sp.find S m=some (a,w):=by
 have hlen:=hw.len
 obtain⟨hn,hcase⟩:=Sp.find_at hw h rfl
 rcases hcase with ⟨c,l,k,g1,g2,g3,g4,g5,g6,g7⟩|⟨k,g1,g2,g3⟩
 ·have hk:k<l.length:=by
   rcases Nat.lt_or_ge k l.length with c|c
   ·exact c
   ·rw[List.getD_eq_getElem?_getD,List.getElem?_eq_none c]at g5;cases g5
  obtain⟨f1,f2,f3⟩:=sz_fit g2 hk g3
  have hp:=getElem?_lt g1
  have hm:m/64=a/64:=by omega
  have hx:k*Sp.sz c≤m%64∧m%64<k*Sp.sz c+Sp.sz c:=by omega
  have hidx:m%64/Sp.sz c=k:=by
   have t1:=Nat.div_le_div_right (c:=Sp.sz c) hx.1
   rw[Nat.mul_div_cancel _ (by omega)]at t1
   have t2:m%64/Sp.sz c<k+1:=(Nat.div_lt_iff_lt_mul (by omega)).mpr (by rw[Nat.add_mul];omega)
   omega
  rw[Sp.find_small (by omega) (by rw[hm];exact g1),hidx,g5,if_pos rfl,hm,←g6,g7]
 ·obtain⟨k1,k2,k3,k4⟩:=hw.head _ _ g1
  have hns:∀c l,S.pg[m/64]? ≠some (.small c l):=fun c l hc=>by
   rcases Nat.lt_or_ge (a/64) (m/64)with c'|c'
   ·rw[k4 (m/64) c' (by omega)]at hc;cases hc
   ·have:m/64=a/64:=by omega
    rw[this,g1]at hc;cases hc
  rw[Sp.find_other (by omega) hns,Sp.own_of hw g1 (by omega),Option.map_some,g3,←g2]
theorem HWf.set_word{S:Spc}{cs:List Cls}(hw:HWf S cs){i:Nat}{x:Int}(h:∀w:Nat,Sp.find S i=some (i,w)→∃h:Hd,Sp.mayH h=true∧x=Sp.putH h∧h.n+1≤(w:Int)):HWf ⟨S.ws.set i x,S.pg⟩ cs:=by
 have hl:(S.ws.set i x).length=S.ws.length:=by simp
 refine⟨⟨by simp[hw.wf.len],hw.wf.most,hw.wf.pos,hw.wf.res,hw.wf.small,hw.wf.head,hw.wf.tail⟩,fun n w hf=> ?_,hw.cls,hw.refs⟩
 rw[find_ws hl]at hf
 by_cases hni:i=n
 ·subst hni
  obtain⟨hd,h1,h2,h3⟩:=h w hf
  have hn:i<S.ws.length:=(Sp.find_at hw.wf hf rfl).1
  exact⟨hd,h1,by dsimp only;rw[getD_set_eq' hn];exact h2,h3⟩
 ·obtain⟨hd,h1,h2,h3⟩:=hw.obj n w hf
  exact⟨hd,h1,by dsimp only;rw[getD_set_ne' hni];exact h2,h3⟩
theorem HWf.put{S:Spc}{cs:List Cls}(hw:HWf S cs)(a i x:Int):HWf (Ob.put S a i x).2 cs:=by
 unfold Ob.put
 split
 ·exact hw
 ·rename_i h
  have h:(Ob.fieldAt S a i).2=0:=by simpa using h
  obtain⟨hd,h1,h2,h3,h4,h5,h6⟩:=Ob.fieldAt_ok hw h
  obtain⟨n,w,rfl,f1,f2,f3,f4,f5⟩:=Ob.head_is hw h1
  refine hw.set_word fun w' hf=> ?_
  exfalso
  have:=find_in hw.wf f1 (m:=(Ob.fieldAt S n i).1.toNat) (by omega) (by omega)
  rw[this]at hf
  injection hf with hf;injection hf with hf _
  omega
theorem blk_ge{w:Int}(h:Sp.blk w≠0):w≤Sp.blk w:=by
 by_cases hc:Sp.cls w<0
 ·obtain⟨k1,k2,k3⟩:=Sp.pgs_pos h hc
  rw[k3]
  unfold Sp.pgs at k1⊢
  split at k1
  ·omega
  ·rename_i hn;rw[if_neg hn];omega
 ·unfold Sp.blk
  rw[if_pos (by omega)]
  rcases Sp.cls_cases w with ⟨_,e⟩|⟨_,h2,e⟩|⟨_,h2,e⟩|⟨_,h2,e⟩|⟨_,h2,e⟩|⟨_,h2,e⟩|⟨_,e⟩<;>rw[e]at hc⊢
  ·omega
  ·exact h2
  ·exact h2
  ·exact h2
  ·exact h2
  ·exact h2
  ·omega
theorem Ob.make_ok{S:Spc}{cs:List Cls}(hw:HWf S cs){h:Hd}(h0:(Ob.make S cs h).2.1=0):∃a n:Nat,(Ob.make S cs h).1=a∧Ob.may cs h=0∧Sp.blk (h.n+1)=n∧h.n+1≤(n:Int)∧a+n≤S.ws.length∧(Ob.make S cs h).2.2.ws=(Sp.clr S.ws a n).set a (Sp.putH h)∧
  (∀m:Nat,Sp.find (Ob.make S cs h).2.2 m=if a≤m∧m<a+n then some (a,n)else Sp.find S m)∧(∀m:Nat,a≤m→m<a+n→Sp.find S m=none)∧HWf (Ob.make S cs h).2.2 cs:=by
 unfold Ob.make at h0⊢
 split at h0
 ·rename_i h1;exact absurd h0 h1
 ·rename_i h1
  rw[if_neg h1]
  have h1:Ob.may cs h=0:=by simpa using h1
  split at h0
  ·rename_i h2;exact absurd h0 h2
  ·rename_i h2
   rw[if_neg h2]
   have h2:(Sp.alloc S (h.n+1)).2.1=0:=by simpa using h2
   obtain⟨a,n,e1,e2,e3,e4,e5,e6,e7,e8⟩:=find_alloc hw.wf h2
   have hwa:=Sp.alloc_wf hw.wf (h.n+1)
   have hge:=blk_ge (w:=h.n+1) (by omega)
   have hlen:(Sp.alloc S (h.n+1)).2.2.ws.length=S.ws.length:=by rw[e6];exact clr_len e5
   have hfind:∀m:Nat,Sp.find ⟨(Sp.alloc S (h.n+1)).2.2.ws.set a (Sp.putH h),(Sp.alloc S (h.n+1)).2.2.pg⟩ m=if a≤m∧m<a+n then some (a,n)else Sp.find S m:=fun m=>by
    rw[find_ws (by simp)];exact e7 m
   refine⟨a,n,e1,h1,e2,by omega,e5,by dsimp only;rw[e1,e6,Int.toNat_natCast],?_,e8,?_⟩
   ·dsimp only;rw[e1,Int.toNat_natCast];exact hfind
   ·dsimp only
    rw[e1,Int.toNat_natCast]
    refine⟨⟨by simp[hwa.len],hwa.most,hwa.pos,hwa.res,hwa.small,hwa.head,hwa.tail⟩,fun m w hf=> ?_,hw.cls,hw.refs⟩
    rw[hfind]at hf
    dsimp only
    by_cases hm:a≤m∧m<a+n
    ·rw[if_pos hm]at hf
     injection hf with hf;injection hf with f1 f2
     subst f1;subst f2
     exact⟨h,(Ob.may_ok h1).1,by rw[getD_set_eq' (by omega)],by omega⟩
    ·rw[if_neg hm]at hf
     obtain⟨hd,g1,g2,g3⟩:=hw.obj m w hf
     refine⟨hd,g1,?_,g3⟩
     rw[getD_set_ne' (by omega),e6,clr_getD e5,if_neg hm];exact g2
theorem HWf.make{S:Spc}{cs:List Cls}(hw:HWf S cs)(h:Hd):HWf (Ob.make S cs h).2.2 cs:=by
 by_cases h0:(Ob.make S cs h).2.1=0
 ·obtain⟨_,_,_,_,_,_,_,_,_,_,r⟩:=Ob.make_ok hw h0
  exact r
 ·unfold Ob.make at h0⊢
  split
  ·exact hw
  ·rename_i h1
   rw[if_neg h1]at h0
   split
   ·exact hw
   ·rename_i h2;rw[if_neg h2]at h0;exact absurd rfl h0
theorem newSpc_find{n:Nat}(h0:1≤n)(a:Int):Sp.find (Sp.newSpc n) a=none:=by
 unfold Sp.find
 split
 ·have hno:∀(i:Nat) (x:Pg),(Sp.newSpc n).pg[i]? =some x→x= .res∨x= .free:=fun i x h=>by
   unfold Sp.newSpc at h
   cases i with
   |zero=>simp at h;exact .inl h.symm
   |succ i=>simp[List.getElem?_replicate]at h;exact .inr h.2.symm
  split
  ·rename_i c l h;rcases hno _ _ h with e|e<;>cases e
  ·rw[Sp.own_no fun j k h=>by rcases hno _ _ h with e|e<;>cases e];rfl
 ·rfl
theorem newSpc_hwf{n:Nat}(h0:1≤n)(h1:n≤256):HWf (Sp.newSpc n) []:=
 ⟨Sp.newSpc_wf h0 h1,fun m w h=>by(rw[newSpc_find h0]at h;cases h),by simp,by simp⟩
theorem put_pg(S:Spc)(a i x:Int):∃ws',(Ob.put S a i x).2=⟨ws',S.pg⟩∧ws'.length=S.ws.length:=by
 unfold Ob.put
 split
 ·exact⟨S.ws,rfl,rfl⟩
 ·exact⟨_,rfl,by simp⟩
theorem Ob.get_ok{S:Spc}{a i:Int}{h:Hd}(hh:Ob.head S a=some h)(h0:0≤i)(h1:i<h.n):Ob.get S a i=(S.ws.getD (a+1+i).toNat 0,0):=by
 have e:Ob.fieldAt S a i=(a+1+i,0):=by unfold Ob.fieldAt;rw[hh];dsimp only;rw[if_neg (by rintro(h|h)<;>omega)]
 unfold Ob.get;rw[e,if_neg (by simp)]
theorem Ob.make_head{S:Spc}{cs:List Cls}(hw:HWf S cs){h:Hd}(h0:(Ob.make S cs h).2.1=0):Ob.head (Ob.make S cs h).2.2 (Ob.make S cs h).1=some h:=by
 obtain⟨a,n,e1,e2,e3,e4,e5,e6,e7,e8,e9⟩:=Ob.make_ok hw h0
 have hb:=Sp.mayH_is (Ob.may_ok e2).1
 have hf:Sp.find (Ob.make S cs h).2.2 a=some (a,n):=by rw[e7 a,if_pos ⟨by omega,by omega⟩]
 unfold Ob.head
 rw[e1,hf]
 dsimp only
 rw[if_pos rfl,e6,getD_set_eq' (by rw[clr_len e5];omega),Sp.getH_put (Ob.may_ok e2).1]
theorem Ob.make_zero{S:Spc}{cs:List Cls}(hw:HWf S cs){h:Hd}(h0:(Ob.make S cs h).2.1=0){i:Int}(i0:0≤i)(i1:i<h.n):Ob.get (Ob.make S cs h).2.2 (Ob.make S cs h).1 i=(0,0):=by
 rw[Ob.get_ok (Ob.make_head hw h0) i0 i1]
 obtain⟨a,n,e1,e2,e3,e4,e5,e6,e7,e8,e9⟩:=Ob.make_ok hw h0
 rw[e1,e6,getD_set_ne' (by omega),clr_getD e5,if_pos ⟨by omega,by omega⟩]
end Go.Proofs.YtfepdmpplahloaaGreat
