/- What is seen of a runtime. -/
import Derived.Test.YtfepdmpplahloaaGreatGsGc3
set_option linter.unusedSimpArgs false
set_option linter.unusedVariables false
namespace Go.Proofs.YtfepdmpplahloaaGreat
open Go Go.Gl
variable{ρ0 ρ:FR}{L L':List Asn}{Post:Value→List Asn→Prop}{T:Tree}
def HeapX(p ps pt:Nat)(S:Spc)(cs:List Cls):Asn:=fun h=>star [blk p [.pointer (some ⟨ps,0,none⟩),.pointer (some ⟨pt,0,none⟩)],SpaceA ps S,TableA pt cs] h
theorem HeapX.op{p ps pt:Nat}{S:Spc}{cs:List Cls}(t:Take L (HeapX p ps pt S cs) L')(h:Tr ρ0 ρ (blk p [.pointer (some ⟨ps,0,none⟩),.pointer (some ⟨pt,0,none⟩)]::SpaceA ps S::TableA pt cs::L') T Post):Tr ρ0 ρ L T Post:=
 Tr.openL (M:=fun _:Unit=>[blk p [.pointer (some ⟨ps,0,none⟩),.pointer (some ⟨pt,0,none⟩)],SpaceA ps S,TableA pt cs]) (c:=fun _=>True) t (fun _ h=>⟨(),trivial,h⟩) (fun _ _=>h)
theorem HeapX.cl{p ps pt:Nat}{S:Spc}{cs:List Cls}(h:HP)(H:star [blk p [.pointer (some ⟨ps,0,none⟩),.pointer (some ⟨pt,0,none⟩)],SpaceA ps S,TableA pt cs] h):HeapX p ps pt S cs h:=H
theorem HeapA.toX{p:Nat}{S:Spc}{cs:List Cls}(t:Take L (HeapA p S cs) L')(h:∀ps pt:Nat,Tr ρ0 ρ (HeapX p ps pt S cs::L') T Post):Tr ρ0 ρ L T Post:=
 HeapA.op t fun ps pt=>Tr.close tks (HeapX.cl (p:=p) (ps:=ps) (pt:=pt) (S:=S) (cs:=cs)) (h ps pt)
theorem HeapX.toA{p ps pt:Nat}{S:Spc}{cs:List Cls}(t:Take L (HeapX p ps pt S cs) L')(h:Tr ρ0 ρ (HeapA p S cs::L') T Post):Tr ρ0 ρ L T Post:=
 Tr.imp t (fun h H=>HeapA.cl (p:=p) (ps:=ps) (pt:=pt) (S:=S) (cs:=cs) h H) h
theorem object_headX(p ps pt:Nat)(S:Spc)(cs:List Cls)(hw:HWf S cs)(a:Int):Gl.Spec ρ Tryz.prog 61 [.pointer (some ⟨p,0,none⟩),i64 a] [HeapX p ps pt S cs] HE
  fun r M=>r=Ob.headR (Ob.head S a)∧M=[HeapX p ps pt S cs]:=by
 refine Gl.Spec.of (fun Q w hh=>F.object.Heap.Head.calls (some ⟨p,0,none⟩) a hh) fun R=> ?_
 unfold F.object.Heap.Head
 try simp only[lca,lna]
 refine en_nw fun b1=> ?_
 rw[zcH]
 refine en_brf rfl (en_nn (HeapX.op tk ?_))
 refine en_ld (k:= .ptr) (b:=p) (x:=some ⟨ps,0,none⟩) (by rw[fa_mk]) tk rfl ?_
 refine en_call (space_find ps S hw.wf a) tks ?_
 rintro x M ⟨rfl,rfl⟩
 try simp only[lca,lna]
 cases hf:Sp.find S a with
 |none=>
  have e:Ob.head S a=none:=by unfold Ob.head;rw[hf]
  rw[e]
  refine en_brt rfl ?_
  refine en_st (b:=b1) (off:=0) rfl tk (by simp) rfl ?_
  refine en_ldg (b:=b1) (x:=((0:Int),(0:Int),(0:Int),false,())) [] rfl tk rfl ?_
  refine Tr.close tks (HeapX.cl (p:=p) (ps:=ps) (pt:=pt) (S:=S) (cs:=cs)) ?_
  exact en_rets (x:=Ob.headR none) rfl ⟨rfl,rfl⟩ tks ens
 |some x=>
  obtain⟨s,w⟩:=x
  refine en_brf rfl (en_br (fun h=> ?_) (fun h=> ?_))
  ·have h:¬(s:Int)=a:=by simpa[Sp.found]using h
   have e:Ob.head S a=none:=by unfold Ob.head;rw[hf];dsimp only;rw[if_neg h]
   rw[e]
   refine en_st (b:=b1) (off:=0) rfl tk (by simp) rfl ?_
   refine en_ldg (b:=b1) (x:=((0:Int),(0:Int),(0:Int),false,())) [] rfl tk rfl ?_
   refine Tr.close tks (HeapX.cl (p:=p) (ps:=ps) (pt:=pt) (S:=S) (cs:=cs)) ?_
   exact en_rets (x:=Ob.headR none) rfl ⟨rfl,rfl⟩ tks ens
  ·have h:(s:Int)=a:=by simpa[Sp.found]using h
   have e:Ob.head S a=some (Sp.getH (S.ws.getD s 0)):=by unfold Ob.head;rw[hf];dsimp only;rw[if_pos h]
   obtain⟨n,w',rfl,g1,g2,g3,g4,g5⟩:=Ob.head_is hw e
   have hsn:s=n:=by omega
   subst hsn
   rw[e]
   generalize Sp.getH (S.ws.getD s 0)=hd at g2 g3 g4⊢
   have hb:=Sp.mayH_is g3
   refine en_nn ?_
   refine en_ld (k:= .ptr) (b:=p) (x:=some ⟨ps,0,none⟩) (by rw[fa_mk]) tk rfl ?_
   refine space_load ps S (s:Int) (by omega) tk ?_
   rw[Int.toNat_natCast,g2]
   refine en_brf rfl ?_
   refine en_call (head_get hd g3) tks ?_
   rintro x M ⟨rfl,rfl⟩
   try simp only[lca,lna]
   refine en_nw fun b2=> ?_
   refine en_st (b:=b2) (off:=0) rfl tk (by simp) rfl (en_brf rfl ?_)
   refine en_ldg (b:=b2) (x:=hd.t) [] rfl tk rfl ?_
   refine en_st (b:=b1) (off:=0) rfl tk (by simp) rfl ?_
   refine en_ldg (b:=b1) (x:=hd.t) [] rfl tk rfl ?_
   refine Tr.close tks (HeapX.cl (p:=p) (ps:=ps) (pt:=pt) (S:=S) (cs:=cs)) ?_
   exact en_rets (x:=Ob.headR (some hd)) rfl ⟨rfl,rfl⟩ tks ens
theorem object_fieldX(p ps pt:Nat)(S:Spc)(cs:List Cls)(hw:HWf S cs)(a i:Int):Gl.Spec ρ Tryz.prog 105 [.pointer (some ⟨p,0,none⟩),i64 a,i64 i] [HeapX p ps pt S cs] P2
  fun r M=>r=((Ob.fieldAt S a i).1,(Ob.fieldAt S a i).2,())∧M=[HeapX p ps pt S cs]:=by
 have hm:=hw.wf.most
 have hl:=hw.wf.len
 refine Gl.Spec.of (fun Q w hh=>F.object.Heap.field.calls (some ⟨p,0,none⟩) a i hh) fun R=> ?_
 unfold F.object.Heap.field
 try simp only[lca,lna]
 refine en_call (object_headX p ps pt S cs hw a) tks ?_
 rintro x M ⟨rfl,rfl⟩
 try simp only[lca,lna]
 refine en_nw fun b2=> ?_
 rw[zcH]
 cases hh:Ob.head S a with
 |none=>
  have e:Ob.fieldAt S a i=(0,2):=by unfold Ob.fieldAt;rw[hh]
  rw[e]
  refine en_st (b:=b2) (off:=0) rfl tk (by simp) rfl (en_brt rfl ?_)
  exact en_rets (x:=((0:Int),(2:Int),())) rfl ⟨rfl,rfl⟩ tks ens
 |some hd=>
  obtain⟨n,w,rfl,_,_,g3,g4,g5⟩:=Ob.head_is hw hh
  have hb:=Sp.mayH_is g3
  refine en_st (b:=b2) (off:=0) rfl tk (by simp) rfl (en_brf rfl ?_)
  refine en_br (fun h1=> ?_) (fun h1=> ?_)
  ·have h1:=of_decide_eq_true h1
   have e:Ob.fieldAt S n i=(0,1):=by unfold Ob.fieldAt;rw[hh];dsimp only;rw[if_pos (.inl h1)]
   rw[e]
   exact en_rets (x:=((0:Int),(1:Int),())) rfl ⟨rfl,rfl⟩ tks ens
  ·have h1:=of_decide_eq_false h1
   refine en_ld (k:= .int .i64) (b:=b2) (off:=2) (x:=hd.n) (by rw[fa_mk]) tk rfl ?_
   refine en_br (fun h2=> ?_) (fun h2=> ?_)
   ·have h2:=of_decide_eq_true h2
    have e:Ob.fieldAt S n i=(0,1):=by unfold Ob.fieldAt;rw[hh];dsimp only;rw[if_pos (.inr h2)]
    rw[e]
    exact en_rets (x:=((0:Int),(1:Int),())) rfl ⟨rfl,rfl⟩ tks ens
   ·have h2:=of_decide_eq_false h2
    have e:Ob.fieldAt S n i=((n:Int)+1+i,0):=by unfold Ob.fieldAt;rw[hh];dsimp only;rw[if_neg (by rintro(h|h)<;>omega)]
    rw[e,wrap64 (n:=(n:Int)+1) (by omega) (by omega),wrap64 (by omega) (by omega)]
    exact en_rets (x:=((n:Int)+1+i,(0:Int),())) rfl ⟨rfl,rfl⟩ tks ens
theorem object_getX(p ps pt:Nat)(S:Spc)(cs:List Cls)(hw:HWf S cs)(a i:Int):Gl.Spec ρ Tryz.prog 62 [.pointer (some ⟨p,0,none⟩),i64 a,i64 i] [HeapX p ps pt S cs] P2
  fun r M=>r=((Ob.get S a i).1,(Ob.get S a i).2,())∧M=[HeapX p ps pt S cs]:=by
 refine Gl.Spec.of (fun Q w hh=>F.object.Heap.Field.calls (some ⟨p,0,none⟩) a i hh) fun R=> ?_
 unfold F.object.Heap.Field
 try simp only[lca,lna]
 refine en_call (object_fieldX p ps pt S cs hw a i) tks ?_
 rintro x M ⟨rfl,rfl⟩
 try simp only[lca,lna]
 refine en_br (fun h=> ?_) (fun h=> ?_)
 ·have h:(Ob.fieldAt S a i).2≠0:=by simpa using h
  have e:Ob.get S a i=(0,(Ob.fieldAt S a i).2):=by unfold Ob.get;rw[if_pos h]
  rw[e]
  exact en_rets (x:=((0:Int),(Ob.fieldAt S a i).2,())) rfl ⟨rfl,rfl⟩ tks ens
 ·have h:(Ob.fieldAt S a i).2=0:=by simpa using h
  have e:Ob.get S a i=(S.ws.getD (Ob.fieldAt S a i).1.toNat 0,0):=by unfold Ob.get;rw[if_neg (by simp[h])]
  obtain⟨hd,h1,h2,h3,h4,h5,h6⟩:=Ob.fieldAt_ok hw h
  rw[e]
  refine en_nn (HeapX.op tk ?_)
  refine en_ld (k:= .ptr) (b:=p) (x:=some ⟨ps,0,none⟩) (by rw[fa_mk]) tk rfl ?_
  refine space_load ps S (Ob.fieldAt S a i).1 (by omega) tk ?_
  refine Tr.close tks (HeapX.cl (p:=p) (ps:=ps) (pt:=pt) (S:=S) (cs:=cs)) ?_
  exact en_rets (x:=(S.ws.getD (Ob.fieldAt S a i).1.toNat 0,(0:Int),())) rfl ⟨rfl,rfl⟩ tks ens
theorem object_objectsX(p ps pt:Nat)(S:Spc)(cs:List Cls)(hw:HWf S cs):Gl.Spec ρ Tryz.prog 24 [.pointer (some ⟨p,0,none⟩)] [HeapX p ps pt S cs] RS
  fun r M=>M=[ObsA r (Ob.objs S),HeapX p ps pt S cs]∧r.n=(Ob.objs S).length:=by
 have hel:=Sp.each_len hw.wf
 refine Gl.Spec.of (fun Q w' h=>F.object.Heap.Objects.calls (some ⟨p,0,none⟩) h) fun R=> ?_
 unfold F.object.Heap.Objects
 try simp only[lca,lna]
 refine en_brf rfl (en_nn (HeapX.op tk ?_))
 refine en_ld (k:= .ptr) (b:=p) (x:=some ⟨ps,0,none⟩) (by rw[fa_mk]) tk rfl ?_
 refine en_call (space_each ps S hw.wf) tks ?_
 rintro s M ⟨hs,rfl⟩
 try simp only[lca,lna]
 refine Tr.close tks (HeapX.cl (p:=p) (ps:=ps) (pt:=pt) (S:=S) (cs:=cs)) ?_
 refine Tr.keepSL (s:=s) tk fun ρ' hle hro=> ?_
 refine Tr.none ?_
 refine Tr.nilSL 6 ?_
 refine en_lp (fun m u M=>(fun(t:Slc) (i:Int)=>∃l:List (Ob1×Slc),M=SLc t 6 (l.flatMap obCs)::star (l.map ObA)::HeapX p ps pt S cs::R∧0≤i∧i≤(Sp.each S).length∧m=(Sp.each S).length-i.toNat∧t.n=i.toNat∧
   l.map (·.1)=((Sp.each S).take i.toNat).map (Ob.at1 S)∧∀x∈l,x.2.n=x.1.ws.length) u.1 u.2.1) (Sp.each S).length ?_ ?_
 ·exact⟨[],rfl,by simp,by simp,by simp,rfl,by simp,by simp⟩
 ·rintro m ⟨(t:Slc),(i:Int),⟨⟩⟩ M ⟨l,rfl,h0,h1,rfl,htn,hl,hln⟩ X hX
  dsimp only at*
  refine en_br (fun h=> ?_) (fun h=> ?_)
  ·replace h:i<(s.n:Int):=of_decide_eq_true h
   have hi:i.toNat<(Sp.each S).length:=by omega
   refine en_ixRo hro h0 h fun a0 ha=> ?_
   refine en_ldRo (j:=i.toNat) (x:=(Sp.each S).getD i.toNat 0) ha hro (by rintro b o rfl;simp[fa_mk]) (getD_map hi) ?_
   have hmem:(Sp.each S).getD i.toNat 0∈Sp.each S:=by rw[List.getD_eq_getElem?_getD,List.getElem?_eq_getElem hi];exact List.getElem_mem hi
   have htk:=take_succ_getD 0 hi
   generalize(Sp.each S).getD i.toNat 0=a at hmem htk⊢
   obtain⟨n,rfl,hn,w,hf,w1,w2,w3⟩:=Sp.each_find hw.wf hmem
   obtain⟨hd,hm,hwd,hfit⟩:=hw.obj n w hf
   have hb:=Sp.mayH_is hm
   have hhd:Ob.head S n=some hd:=by unfold Ob.head;rw[hf];dsimp only;rw[if_pos rfl,hwd,Sp.getH_put hm]
   obtain⟨ln,hln2⟩:∃ln:Nat,hd.n=ln:=⟨hd.n.toNat,by omega⟩
   refine en_nw fun b8=> ?_
   rw[zcO]
   refine en_st (b:=b8) (off:=0) rfl tk (by simp) rfl ?_
   refine en_call (object_headX p ps pt S cs hw (n:Int)) tks ?_
   rintro x M ⟨rfl,rfl⟩
   try simp only[lca,lna]
   rw[hhd]
   refine en_st (b:=b8) (off:=1) (by rw[fa_mk]) tk (by simp[setL]) rfl ?_
   have e8:setL (setL [.int .i64 0,.int .i64 0,.int .i64 0,.int .i64 0,.bool false,.slice none 0 0] 0 [.int .i64 (n:Int),.int .i64 0,.int .i64 0,.int .i64 0,.bool false,.slice none 0 0]) 1
     [.int .i64 (Ob.headR (some hd)).1.1,.int .i64 (Ob.headR (some hd)).1.2.1,.int .i64 (Ob.headR (some hd)).1.2.2.1,.bool (Ob.headR (some hd)).1.2.2.2.1]=[i64 n,i64 hd.k,i64 hd.c,i64 ln,.bool hd.f,.slice none 0 0]:=by
    rw[←hln2];rfl
   rw[e8]
   refine en_ld (k:= .int .i64) (b:=b8) (off:=3) (x:=(ln:Int)) (by rw[fa_mk,fa_mk]) tk rfl ?_
   refine Tr.nilSL 1 ?_
   refine Tr.take (A:=blk b8 [i64 n,i64 hd.k,i64 hd.c,i64 ln,.bool hd.f,.slice none 0 0]) tk ?_
   refine en_lp (fun m u M=>(fun(j:Int)=>∃q:Slc,M=blk b8 [i64 n,i64 hd.k,i64 hd.c,i64 ln,.bool hd.f,.slice q.a q.n q.c]::SLc q 1 (((List.range j.toNat).map fun i:Nat=>(Ob.get S n i).1).map i64)::HeapX p ps pt S cs::SLc t 6 (l.flatMap obCs)::star (l.map ObA)::R∧
     0≤j∧j≤ln∧m=ln-j.toNat∧q.n=j.toNat) u.1) ln ?_ ?_
   ·exact⟨⟨none,0,0⟩,rfl,by simp,by dsimp only;omega,by simp,rfl⟩
   ·rintro m ⟨(j:Int),⟨⟩⟩ M ⟨q,rfl,j0,j1,rfl,hq⟩ Y hY
    dsimp only at*
    refine en_br (fun h2=> ?_) (fun h2=> ?_)
    ·replace h2:j<(ln:Int):=of_decide_eq_true h2
     refine en_call (object_getX p ps pt S cs hw (n:Int) j) tks ?_
     rintro x M ⟨rfl,rfl⟩
     try simp only[lca,lna]
     refine en_ld (k:= .slice) (b:=b8) (off:=5) (x:=q) (by rw[fa_mk]) tk rfl ?_
     refine en_nw fun b=> ?_
     refine en_app (s:=q) (x:=⟨some ⟨b,0,none⟩,1,1⟩) (ys:=[i64 (Ob.get S n j).1]) appInt tk (Rd.cl tk rfl rfl) rfl (by rw[hq];dsimp only;omega) (by rw[hq];dsimp only;omega) fun r hr=> ?_
     refine en_st (b:=b8) (off:=5) (by rw[fa_mk]) tk (by simp) rfl ?_
     have e:((List.range j.toNat).map fun i:Nat=>(Ob.get S n i).1).map i64++[i64 (Ob.get S n j).1]=((List.range (j+1).toNat).map fun i:Nat=>(Ob.get S n i).1).map i64:=by
      rw[show(j+1).toNat=j.toNat+1 by omega,List.range_succ,List.map_append,List.map_append]
      simp only[List.map_cons,List.map_nil]
      rw[show((j.toNat:Nat):Int)=j by omega]
     rw[e]
     refine Tr.drop (A:=blk b [i64 (Ob.get S n j).1]) tk ?_
     rw[wrap64 (by omega) (by omega)]
     exact hY (ln-(j+1).toNat) _ _ (by omega) ⟨r,rfl,by dsimp only;omega,by dsimp only;omega,rfl,by dsimp only;rw[hr,hq];show _+1=_;omega⟩
    ·replace h2:¬j<(ln:Int):=of_decide_eq_false h2
     have hjl:j.toNat=ln:=by omega
     rw[hjl]at hq⊢
     refine en_ldg (b:=b8) (x:=((n:Int),hd.k,hd.c,(ln:Int),hd.f,q,())) [] rfl tk rfl ?_
     refine en_nw fun b9=> ?_
     refine en_app (s:=t) (x:=⟨some ⟨b9,0,none⟩,1,1⟩) (ys:=[i64 n,i64 hd.k,i64 hd.c,i64 ln,.bool hd.f,.slice q.a q.n q.c]) appObj tk (Rd.cl tk rfl rfl) rfl (by rw[htn];dsimp only;omega) (by rw[htn];dsimp only;omega) fun r hr=> ?_
     have hat:Ob.at1 S n=⟨n,hd,(List.range ln).map fun i:Nat=>(Ob.get S n i).1⟩:=by
      unfold Ob.at1;rw[hhd];dsimp only;rw[hln2,Int.toNat_natCast]
     have hfl:l.flatMap obCs++[i64 n,i64 hd.k,i64 hd.c,i64 ln,.bool hd.f,.slice q.a q.n q.c]=(l++[(Ob.at1 S n,q)]).flatMap obCs:=by
      rw[List.flatMap_append,List.flatMap_cons,List.flatMap_nil,List.append_nil,hat]
      simp only[obCs,hln2]
     rw[hfl]
     refine Tr.imp (A:=star (l.map ObA)) (A':=star ((l++([]:List (Ob1×Slc))).map ObA)) tk (by simp) ?_
     have hw2:((List.range ln).map fun i:Nat=>(Ob.get S n i).1)=(Ob.at1 S n).ws:=by rw[hat]
     rw[hw2]
     refine Tr.close (A:=star ((l++[(Ob.at1 S n,q)]).map ObA)) (M:=[SLc q 1 ((Ob.at1 S n).ws.map i64),star ((l++([]:List (Ob1×Slc))).map ObA)]) tks (fun h H=>star_mid' (P:=ObA) (x:=(Ob.at1 S n,q)) h H) ?_
     refine Tr.drop (A:=blk b9 [i64 n,i64 hd.k,i64 hd.c,i64 ln,.bool hd.f,.slice q.a q.n q.c]) tk ?_
     refine Tr.drop (A:=blk b8 [i64 n,i64 hd.k,i64 hd.c,i64 ln,.bool hd.f,.slice q.a q.n q.c]) tk ?_
     refine Tr.take (A:=SLc r 6 ((l++[(Ob.at1 S n,q)]).flatMap obCs)) tk ?_
     rw[wrap64 (by omega) (by omega)]
     refine hX ((Sp.each S).length-(i+1).toNat) _ _ (by omega) ⟨l++[(Ob.at1 S n,q)],rfl,by dsimp only;omega,by dsimp only;omega,rfl,by dsimp only;rw[hr,htn];show _+1=_;omega,?_,?_⟩
     ·dsimp only
      rw[show(i+1).toNat=i.toNat+1 by omega,htk,List.map_append,List.map_append,hl];rfl
     ·intro x hx
      rcases List.mem_append.mp hx with hx|hx
      ·exact hln x hx
      ·simp only[List.mem_singleton]at hx
       subst hx
       dsimp only
       rw[←hw2,hq];simp
  ·replace h:¬i<(s.n:Int):=of_decide_eq_false h
   have hie:i.toNat=(Sp.each S).length:=by omega
   rw[hie,List.take_length]at hl
   have htl:t.n=(Ob.objs S).length:=by rw[htn,hie];simp[Ob.objs]
   refine Tr.close (M:=[SLc t 6 (l.flatMap obCs),star (l.map ObA)]) tks (ObsA.cl (os:=Ob.objs S) htl hl hln) ?_
   exact en_rets (x:=(t:Slc)) rfl ⟨rfl,htl⟩ tks ens
theorem que_listX(p hp ps pt:Nat)(S:Spc)(cs:List Cls)(hw:HWf S cs)(rows:List (List Int))(i:Int)(h':Qu.has rows i=true)(hk:Qu.Lk S (Qu.row rows i))(hn:(Qu.row rows i).length≤2^30):
  Gl.Spec ρ Tryz.prog 66 [.pointer (some ⟨p,0,none⟩),i64 i] [QueA p hp rows,HeapX hp ps pt S cs] SE
  fun r M=>(∃s:Slc,r=(s,0,())∧s.n=(Qu.row rows i).length∧M=[SLc s 1 ((Qu.row rows i).map i64),QueA p hp rows,HeapX hp ps pt S cs]):=by
 refine Gl.Spec.of (fun Q w h=>F.queue.Queues.List.calls (some ⟨p,0,none⟩) i h) fun R=> ?_
 unfold F.queue.Queues.List
 try simp only[lca,lna]
 refine en_call (que_has p hp rows i) tks ?_
 rintro x' M ⟨rfl,rfl⟩
 try simp only[lca,lna]
 refine en_brf (by rw[h'];rfl) ?_
 obtain⟨hi0,hi1⟩:=row_has h'
 have hrow:rows.getD i.toNat []=Qu.row rows i:=rfl
 refine en_nn (QueA.op tk fun s hs=> ?_)
 refine en_ld (k:= .slice) (off:=1) (x:=s) (by rw[fa_mk]) tk rfl ?_
 refine en_ixSL tk hi0 (by omega) fun a0 ha=> ?_
 refine en_ldSL (j:=i.toNat*2) ha tk (by rintro b o rfl;simp[fa_mk]) (endC_get hi1).1 ?_
 rw[hrow]
 refine Tr.close tks (QueA.cl (p:=p) (hp:=hp) (rows:=rows) hs) ?_
 refine Tr.nilSL 1 ?_
 generalize hq:Qu.row rows i=q at*
 refine en_lp (I:=fun n st M=>∃(pre r:List Int) (t:Slc),q=pre++r∧n=r.length∧st=(t,r.headD 0,())∧t.n=pre.length∧M=SLc t 1 (pre.map i64)::QueA p hp rows::HeapX hp ps pt S cs::R) q.length ⟨[],q,_,rfl,rfl,rfl,rfl,rfl⟩ ?_
 rintro n _ _ ⟨pre,r,t,he,rfl,rfl,ht,rfl⟩ X hX
 try simp only[lca,lna]
 have hql:pre.length+r.length=q.length:=by rw[he,List.length_append]
 cases r with
 |nil=>
  refine en_brf rfl ?_
  rw[List.append_nil]at he
  subst he
  exact en_rets (x:=(t,(0:Int),())) rfl ⟨t,rfl,ht,rfl⟩ tks ens
 |cons a r=>
  rw[he]at hk
  obtain⟨h0,hg⟩:=Qu.Lk.get hk
  rw[List.length_cons]at hql
  refine en_brt (by simpa using h0) (en_nw fun b=> ?_)
  refine en_app (s:=t) (x:=⟨some ⟨b,0,none⟩,1,1⟩) (ys:=[i64 a]) appInt tk (Rd.cl tk rfl rfl) rfl (by rw[ht];dsimp only;omega) (by rw[ht];dsimp only;omega) fun r2 hr2=> ?_
  refine Tr.drop (A:=blk b [i64 a]) tk ?_
  refine en_nn (QueA.op tk fun s hs=> ?_)
  refine en_ld (k:= .ptr) (off:=0) (x:=some ⟨hp,0,none⟩) (by rw[fa_mk]) tk rfl ?_
  refine Tr.close tks (QueA.cl (p:=p) (hp:=hp) (rows:=rows) hs) ?_
  refine en_call (object_getX hp ps pt S cs hw a 2) tks ?_
  rintro x' M ⟨rfl,rfl⟩
  try simp only[lca,lna]
  rw[hg]
  refine en_brf rfl ?_
  have e:pre.map i64++[i64 a]=(pre++[a]).map i64:=by rw[List.map_append];rfl
  rw[e]
  refine Tr.perm (Takes.perm (M:=[SLc r2 1 ((pre++[a]).map i64),QueA p hp rows,HeapX hp ps pt S cs]) tks) (hX r.length _ _ (by rw[List.length_cons];omega) ⟨pre++[a],r,r2,by rw[he,List.append_assoc];rfl,rfl,rfl,by rw[hr2,ht,List.length_append];rfl,rfl⟩)
theorem gc_queuedX(i:Pl)(ps pt:Nat)(x:Rt)(hw:HWf x.S x.cs)(hr:RowsOk x.S x.rows):Gl.Spec ρ Tryz.prog 27 [.pointer (some ⟨i.p,0,none⟩)] [blk i.p (i.cs x),RfA i.r i.b x.rows x.ser,HeapX i.b ps pt x.S x.cs] RS
  fun r M=>∃l:List SP2,l.map (·.2)=x.rows∧(∀y∈l,y.1.n=y.2.length∧y.1.n≤y.1.c)∧r.n=x.rows.length∧M=[SLc r 1 (l.map slcV),star (l.map slP),blk i.p (i.cs x),RfA i.r i.b x.rows x.ser,HeapX i.b ps pt x.S x.cs]:=by
 refine Gl.Spec.of (fun Q w h=>F.gc.Parts.queued.calls (some ⟨i.p,0,none⟩) h) fun R=> ?_
 unfold F.gc.Parts.queued
 try simp only[lca,lna]
 refine en_nn ?_
 refine en_ld (k:= .ptr) (b:=i.p) (off:=0) (x:=some ⟨i.r,0,none⟩) (by rw[fa_mk]) tk rfl (en_nn (RfA.op tk fun q=> ?_))
 refine en_ld (k:= .ptr) (b:=i.r) (off:=0) (x:=some ⟨q,0,none⟩) (by rw[fa_mk]) tk rfl ?_
 refine en_call (que_count q i.b x.rows) tks ?_
 rintro x' M ⟨rfl,rfl⟩
 try simp only[lca,lna]
 refine Tr.close tks (RfA.cl (p:=i.r) (q:=q) (hp:=i.b) (rows:=x.rows) (n:=x.ser)) ?_
 refine Tr.nilSL 1 ?_
 refine Tr.close (M:=[]) (A:=star (([]:List SP2).map slP)) .nil (fun h H=>H) ?_
 refine Tr.perm (Takes.perm (M:=[SLc ⟨none,0,0⟩ 1 (([]:List SP2).map slcV),star (([]:List SP2).map slP),blk i.p (i.cs x),RfA i.r i.b x.rows x.ser,HeapX i.b ps pt x.S x.cs]) tks) ?_
 refine en_lp (I:=fun m u M=>∃(j:Nat) (t:Slc) (l:List SP2),j≤x.rows.length∧m=x.rows.length-j∧u=(t,(j:Int),())∧l.map (·.2)=x.rows.take j∧(∀y∈l,y.1.n=y.2.length∧y.1.n≤y.1.c)∧t.n=j∧
  M=[SLc t 1 (l.map slcV),star (l.map slP),blk i.p (i.cs x),RfA i.r i.b x.rows x.ser,HeapX i.b ps pt x.S x.cs]++R) x.rows.length ⟨0,_,[],by omega,rfl,rfl,rfl,(fun y hy=>by cases hy),rfl,rfl⟩ ?_
 rintro m _ _ ⟨j,t,l,hj,rfl,rfl,hl,hy,ht,rfl⟩ X hX
 try simp only[lca,lna]
 refine en_br (fun hc=> ?_) (fun hc=> ?_)
 ·have hj':(j:Int)<(x.rows.length:Nat):=of_decide_eq_true hc
  have hjl:j<x.rows.length:=by omega
  obtain⟨r1,r2,r3⟩:=row_at hjl
  refine en_nn ?_
  refine en_ld (k:= .ptr) (b:=i.p) (off:=0) (x:=some ⟨i.r,0,none⟩) (by rw[fa_mk]) tk rfl (en_nn (RfA.op tk fun q=> ?_))
  refine en_ld (k:= .ptr) (b:=i.r) (off:=0) (x:=some ⟨q,0,none⟩) (by rw[fa_mk]) tk rfl ?_
  have hlen:=hr.len _ r2
  refine en_call (que_listX q i.b ps pt x.S x.cs hw x.rows j r1 (hr.lk _ r2) (by omega)) tks ?_
  rintro _ _ ⟨s,rfl,hs,rfl⟩
  try simp only[lca,lna]
  refine Tr.close tks (RfA.cl (p:=i.r) (q:=q) (hp:=i.b) (rows:=x.rows) (n:=x.ser)) ?_
  refine en_nw fun b=> ?_
  have hfew:=hr.few
  refine en_app (s:=t) (x:=⟨some ⟨b,0,none⟩,1,1⟩) (ys:=[.slice s.a s.n s.c]) appSls tk (Rd.cl tk rfl rfl) rfl (by rw[ht];dsimp only;omega) (by rw[ht];dsimp only;omega) fun v hv=> ?_
  refine Tr.drop (A:=blk b [.slice s.a s.n s.c]) tk ?_
  refine Tr.sl_len (s:=s) (m:=1) (xs:=(Qu.row x.rows j).map i64) tk fun _ hcap=> ?_
  rw[wrap64 (by omega) (by omega)]
  have e1:l.map slcV++[.slice s.a s.n s.c]=(l++[(s,Qu.row x.rows j)]).map slcV:=by rw[List.map_append];rfl
  rw[e1]
  refine Tr.close (M:=[star (l.map slP),SLc s 1 ((Qu.row x.rows j).map i64)]) (A:=star ((l++[(s,Qu.row x.rows j)]).map slP)) tks (fun h H=>by rw[List.map_append];exact star_append' H) ?_
  refine Tr.perm (Takes.perm (M:=[SLc v 1 ((l++[(s,Qu.row x.rows j)]).map slcV),star ((l++[(s,Qu.row x.rows j)]).map slP),blk i.p (i.cs x),RfA i.r i.b x.rows x.ser,HeapX i.b ps pt x.S x.cs]) tks) ?_
  refine hX (x.rows.length-(j+1)) _ _ (by omega) ⟨j+1,v,l++[(s,Qu.row x.rows j)],by omega,rfl,rfl,?_,?_,by rw[hv,ht],rfl⟩
  ·rw[List.map_append,hl,List.take_add_one,List.getElem?_eq_getElem hjl,r3];rfl
  ·intro y hyy
   rcases List.mem_append.mp hyy with h|h
   ·exact hy y h
   ·rw[List.mem_singleton]at h;subst h;exact⟨hs,hcap⟩
 ·have hj':¬(j:Int)<(x.rows.length:Nat):=of_decide_eq_false hc
  have hjl:j=x.rows.length:=by omega
  rw[List.take_of_length_le (by omega)]at hl
  exact en_rets (x:=t) rfl ⟨l,hl,hy,by rw[ht,hjl],rfl⟩ tks ens
theorem en_ldSX{M M':List Asn}{p ps pt:Nat}{S:Spc}{cs:List Cls}{a:Addr}{f:Option Addr→Tree}(t:Take M (HeapX p ps pt S cs) M')(ha:a=⟨p,0,none⟩)(h:Tr ρ0 ρ L (f (some ⟨ps,0,none⟩)) Post):Tr ρ0 ρ L (ldLS (Sat ρ M) .ptr a f) Post:=
 fun hle w hw=>⟨some ⟨ps,0,none⟩,fun w' hw'=>by
  have h1:Sat ρ (star [blk p [.pointer (some ⟨ps,0,none⟩),.pointer (some ⟨pt,0,none⟩)],SpaceA ps S,TableA pt cs]::M') w':=hw'.perm t.perm
  obtain⟨ty,hb⟩:=Sat.cl h1.unstar
  rw[ha]
  exact cell_of hb rfl,h hle w hw⟩
theorem zcView:zc Tryz.prog 49=[.slice none 0 0,.slice none 0 0,.slice none 0 0,.slice none 0 0,.slice none 0 0,.slice none 0 0,i64 0,i64 0,i64 0,i64 0]:=by kernel_rfl
abbrev VwL:List LK:=[.slice,.slice,.slice,.slice,.slice,.slice,.int .i64,.int .i64,.int .i64,.int .i64]
theorem gc_view(i:Pl)(x:Rt)(H:x.Ok):Gl.Spec ρ Tryz.prog 17 [.pointer (some ⟨i.p,0,none⟩)] (i.A x) (.one (.g VwL))
  fun r M=>∃(so sh sr sq sf sp:Slc) (l:List SP2),r=(so,sh,sr,sq,sf,sp,x.ck,x.ser,x.used,x.rn,())∧
   (so.n=(Ob.objs x.S).length∧sh.n=(Hn.all x.hs).length∧sr.n=16∧sq.n=x.rows.length∧sf.n=x.wa.length∧sp.n=x.pe.length)∧
   l.map (·.2)=x.rows∧(∀y∈l,y.1.n=y.2.length∧y.1.n≤y.1.c)∧
   M=[ObsA so (Ob.objs x.S),SLc sh 2 ((Hn.all x.hs).flatMap hcs),SLc sr 1 (x.ro.map i64),SLc sq 1 (l.map slcV),star (l.map slP),SLc sf 1 (x.wa.map i64),SLc sp 1 (x.pe.map i64)]++i.A x:=by
 refine Gl.Spec.of (fun Q w h=>F.gc.Parts.View.calls (some ⟨i.p,0,none⟩) h) fun R=> ?_
 unfold F.gc.Parts.View
 try simp only[lca,lna]
 have hwa:=H.wa
 have hpe:=H.pe
 refine en_nw fun b1=> ?_
 rw[zcView]
 refine en_brf rfl ?_
 refine HeapA.toX (p:=i.b) (S:=x.S) (cs:=x.cs) tk fun ps pt=> ?_
 refine en_drw (en_held [blk i.p (i.cs x),HeapX i.b ps pt x.S x.cs] tks ?_)
 refine en_nn (en_ldS (k:= .ptr) (b:=i.p) (off:=4) (x:=some ⟨i.b,0,none⟩) (by rw[fa_mk]) tk rfl ?_)
 refine en_nn (en_ldS (k:= .ptr) (b:=i.p) (off:=1) (x:=some ⟨i.h,0,none⟩) (by rw[fa_mk]) tk rfl ?_)
 refine en_nn (en_ldS (k:= .ptr) (b:=i.p) (off:=2) (x:=some ⟨i.o,0,none⟩) (by rw[fa_mk]) tk rfl ?_)
 refine en_nn (en_ldS (k:= .ptr) (b:=i.p) (off:=3) (x:=some ⟨i.f,0,none⟩) (by rw[fa_mk]) tk rfl ?_)
 refine en_nn (en_ldS (k:= .ptr) (b:=i.p) (off:=3) (x:=some ⟨i.f,0,none⟩) (by rw[fa_mk]) tk rfl ?_)
 refine en_nn (en_ldS (k:= .int .i64) (b:=i.p) (off:=8) (x:=x.ck) (by rw[fa_mk]) tk rfl ?_)
 refine en_nn (en_ldS (k:= .ptr) (b:=i.p) (off:=0) (x:=some ⟨i.r,0,none⟩) (by rw[fa_mk]) tk rfl ?_)
 refine en_nn (en_ldS (k:= .ptr) (b:=i.p) (off:=4) (x:=some ⟨i.b,0,none⟩) (by rw[fa_mk]) tk rfl ?_)
 refine en_nn (en_ldSX (p:=i.b) (ps:=ps) (pt:=pt) (S:=x.S) (cs:=x.cs) tk (by rw[fa_mk]) ?_)
 refine en_nn (en_ldS (k:= .int .i64) (b:=i.p) (off:=9) (x:=x.rn) (by rw[fa_mk]) tk rfl ?_)
 refine en_call (object_objectsX i.b ps pt x.S x.cs H.hw) tks ?_
 rintro so _ ⟨rfl,hso⟩
 try simp only[lca,lna]
 refine en_chk tks ?_
 refine en_call (han_all i.h H.hs) tks ?_
 rintro sh _ ⟨hsh,rfl⟩
 try simp only[lca,lna]
 refine en_chk tks ?_
 refine en_call (root_roots i.o x.ro H.ro) tks ?_
 rintro sr _ ⟨hsr,rfl⟩
 try simp only[lca,lna]
 refine en_chk tks ?_
 refine en_call (gc_queuedX i ps pt x H.hw H.rows) tks ?_
 rintro sq _ ⟨l,hl,hly,hsq,rfl⟩
 try simp only[lca,lna]
 refine en_chk tks ?_
 refine en_call (fin_finals i.f i.b x.wa x.pe (by omega)) tks ?_
 rintro sf _ ⟨hsf,rfl⟩
 try simp only[lca,lna]
 refine en_chk tks ?_
 refine en_call (fin_pending i.f i.b x.wa x.pe (by omega)) tks ?_
 rintro sp _ ⟨hsp,rfl⟩
 try simp only[lca,lna]
 refine en_chk tks ?_
 refine en_call (rfs_serial i.r i.b x.rows x.ser) tks ?_
 rintro x' M ⟨rfl,rfl⟩
 try simp only[lca,lna]
 refine en_chk tks ?_
 refine HeapX.op (p:=i.b) (ps:=ps) (pt:=pt) (S:=x.S) (cs:=x.cs) tk ?_
 refine en_call (space_used ps x.S H.hw.wf) tks ?_
 rintro x' M ⟨rfl,rfl⟩
 try simp only[lca,lna]
 refine Tr.close tks (HeapX.cl (p:=i.b) (ps:=ps) (pt:=pt) (S:=x.S) (cs:=x.cs)) ?_
 refine en_chk tks ?_
 refine en_st (b:=b1) (off:=0) rfl tk (by simp) rfl ?_
 refine en_ldg (b:=b1) (off:=0) (x:=(so,sh,sr,sq,sf,sp,x.ck,x.ser,x.used,x.rn,())) [] rfl tk rfl ?_
 refine HeapX.toA (p:=i.b) (ps:=ps) (pt:=pt) (S:=x.S) (cs:=x.cs) tk ?_
 exact en_rets (x:=(so,sh,sr,sq,sf,sp,x.ck,x.ser,x.used,x.rn,())) rfl ⟨so,sh,sr,sq,sf,sp,l,rfl,⟨hso,hsh,hsr,hsq,hsf,hsp⟩,hl,hly,rfl⟩ tks ens
end Go.Proofs.YtfepdmpplahloaaGreat
