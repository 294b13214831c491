/- Handles, roots. -/
import Derived.Test.YtfepdmpplahloaaGreatGsRt
import Derived.Test.YtfepdmpplahloaaGreatGsTh
set_option linter.unusedSimpArgs false
set_option linter.unusedVariables false
namespace Go.Proofs.YtfepdmpplahloaaGreat
open Go Go.Gl
variable{ρ0 ρ:FR}{L L':List Asn}{Post:Value→List Asn→Prop}{T:Tree}
def hcells(hs:List Hn.Slot):List Value:=hs.flatMap fun e=>[i64 e.1,i64 e.2]
theorem hc_len:∀(hs:List Hn.Slot),(hcells hs).length=2*hs.length
 |[]=>rfl
 |e::hs=>by
  have:=hc_len hs
  simp only[hcells,List.flatMap_cons,List.length_append,List.length_cons,List.length_nil]at this⊢
  omega
theorem hc_get:∀{hs:List Hn.Slot} {i:Nat},i<hs.length→(hcells hs)[i*2]? =some (i64 (Hn.at' hs i).1)∧(hcells hs)[i*2+1]? =some (i64 (Hn.at' hs i).2)
 |[],i,h=>by cases h
 |e::hs,0,_=>⟨rfl,rfl⟩
 |e::hs,i+1,h=>by
  have:=hc_get (hs:=hs) (i:=i) (Nat.lt_of_succ_lt_succ h)
  have e1:(i+1)*2=i*2+1+1:=by omega
  rw[e1]
  exact this
theorem hc_set:∀{hs:List Hn.Slot} {i:Nat} {x:Int},i<hs.length→(hcells hs).set (i*2) (i64 x)=hcells (hs.set i (x,(Hn.at' hs i).2))∧(hcells hs).set (i*2+1) (i64 x)=hcells (hs.set i ((Hn.at' hs i).1,x))
 |[],i,_,h=>by cases h
 |e::hs,0,_,_=>⟨rfl,rfl⟩
 |e::hs,i+1,x,h=>by
  have:=hc_set (hs:=hs) (i:=i) (x:=x) (Nat.lt_of_succ_lt_succ h)
  have e1:(i+1)*2=i*2+1+1:=by omega
  rw[e1]
  exact⟨congrArg (fun l=>i64 e.1::i64 e.2::l) this.1,congrArg (fun l=>i64 e.1::i64 e.2::l) this.2⟩
abbrev HanA(p:Nat)(hs:List Hn.Slot):Asn:=blk p (hcells hs)
theorem han_turn(p o:Nat)(cs:List Value){n:Int}(h:cs[o]? =some (i64 n))(hn:0≤n∧n<2^50):Gl.Spec ρ Tryz.prog 106 [.pointer (some ⟨p,o,none⟩)] [blk p cs] R1
  fun r M=>r=n+1∧M=[blk p cs]:=by
 refine Gl.Spec.of (fun Q w h=>F.handle.turns.turn.calls (some ⟨p,o,none⟩) h) fun R=> ?_
 unfold F.handle.turns.turn
 try simp only[lca,lna]
 refine en_nn ?_
 refine en_ld (k:= .int .i64) (off:=o) (x:=n) (by rw[fa_mk];rfl) tk h ?_
 rw[wrap64 (by omega) (by omega)]
 exact en_rets (x:=n+1) rfl ⟨rfl,rfl⟩ tks ens
theorem han_next(p o:Nat)(cs:List Value){n:Int}(h:cs[o]? =some (i64 n))(hn:0≤n∧n<2^50):Gl.Spec ρ Tryz.prog 127 [.pointer (some ⟨p,o,none⟩)] [blk p cs] (.many [])
  fun _ M=>M=[blk p (cs.set o (i64 (n+1)))]:=by
 refine Gl.Spec.of (fun Q w h=>F.handle.turns.next.calls (some ⟨p,o,none⟩) h) fun R=> ?_
 unfold F.handle.turns.next
 try simp only[lca,lna]
 refine en_nn ?_
 refine en_ld (k:= .int .i64) (off:=o) (x:=n) (by rw[fa_mk];rfl) tk h ?_
 rw[wrap64 (by omega) (by omega)]
 refine en_nn ?_
 have ho:o<cs.length:=by
  rcases Nat.lt_or_ge o cs.length with h'|h'
  ·exact h'
  ·rw[List.getElem?_eq_none h']at h;cases h
 refine en_st (off:=o) (by rw[fa_mk];rfl) tk (by rw[List.length_singleton];omega) rfl ?_
 have e:setL cs o [i64 (n+1)]=cs.set o (i64 (n+1)):=rfl
 rw[e]
 exact en_rets (x:=()) rfl rfl tks ens
theorem han_told(p:Nat){hs:List Hn.Slot}(H:Hn.Ok hs){i:Nat}(hi:i<512):Gl.Spec ρ Tryz.prog 63 [.pointer (some ⟨p,0,none⟩),i64 i] [HanA p hs] R1
  fun r M=>r=Hn.told hs i∧M=[HanA p hs]:=by
 refine Gl.Spec.of (fun Q w h=>F.handle.Handles.told.calls (some ⟨p,0,none⟩) i h) fun R=> ?_
 unfold F.handle.Handles.told
 try simp only[lca,lna]
 refine en_nn (en_ix (by omega) (by omega) ?_)
 rw[fa_mk,fa_mk,fa_mk]
 have hl:=H.len
 have hg:=H.get i
 rw[show 0+0+(i:Int).toNat*2+0=i*2 by omega]
 refine en_call (han_turn p (i*2) (hcells hs) (hc_get (by omega)).1 hg) tks ?_
 rintro x' M ⟨rfl,rfl⟩
 try simp only[lca,lna]
 have e:IntKind.wrap .i64 ((i:Int)+IntKind.wrap .i64 (512*((Hn.at' hs i).1+1)))=Hn.told hs i:=by
  rw[wrap64 (n:=512*((Hn.at' hs i).1+1)) (by omega) (by omega),wrap64 (by omega) (by omega)];rfl
 rw[e]
 exact en_rets (x:=Hn.told hs i) rfl ⟨rfl,rfl⟩ tks ens
theorem han_hold(p:Nat){hs:List Hn.Slot}(H:Hn.Ok hs)(a:Int):Gl.Spec ρ Tryz.prog 124 [.pointer (some ⟨p,0,none⟩),i64 a] [HanA p hs] P2
  fun r M=>r=((Hn.holdR hs a).1,(Hn.holdR hs a).2,())∧M=[HanA p (Hn.holdS hs a)]:=by
 refine Gl.Spec.of (fun Q w h=>F.handle.Handles.Hold.calls (some ⟨p,0,none⟩) a h) fun R=> ?_
 unfold F.handle.Handles.Hold
 try simp only[lca,lna]
 have hl:=H.len
 refine en_brf rfl (en_br (fun ha=> ?_) (fun ha=> ?_))
 ·have ha':a<1:=of_decide_eq_true ha
  have e1:Hn.holdR hs a=(0,1):=by unfold Hn.holdR;rw[if_pos ha']
  have e2:Hn.holdS hs a=hs:=by unfold Hn.holdS;rw[if_pos ha']
  rw[e1,e2]
  exact en_rets (x:=((0:Int),(1:Int),())) rfl ⟨rfl,rfl⟩ tks ens
 have ha':¬a<1:=of_decide_eq_false ha
 refine en_lp (I:=fun n s M=>∃k:Nat,k≤512∧n=512-k∧s=((k:Int),())∧M=HanA p hs::R∧∀j,j<k→(Hn.at' hs j).2≠0) 512 ⟨0,by omega,rfl,rfl,rfl,fun j hj=>by omega⟩ ?_
 rintro n _ _ ⟨k,hk,rfl,rfl,rfl,hz⟩ X hX
 try simp only[lca,lna]
 refine en_br (fun hc=> ?_) (fun hc=> ?_)
 ·have hk':k<512:=by have:(k:Int)<512:=of_decide_eq_true hc;omega
  refine en_nn (en_ix (by omega) (by omega) ?_)
  rw[fa_mk,fa_mk,fa_mk]
  rw[show 0+0+(k:Int).toNat*2+1=k*2+1 by omega]
  refine en_ld (k:= .int .i64) (off:=k*2+1) (x:=(Hn.at' hs k).2) rfl tk (hc_get (by omega)).2 ?_
  refine en_br (fun h0=> ?_) (fun h0=> ?_)
  ·have h0':(Hn.at' hs k).2=0:=by simpa using h0
   refine en_nn (en_ix (by omega) (by omega) ?_)
   rw[fa_mk,fa_mk,fa_mk]
   rw[show 0+0+(k:Int).toNat*2+1=k*2+1 by omega]
   refine en_st (off:=k*2+1) rfl tk (by rw[hc_len,List.length_singleton];omega) rfl ?_
   have e:setL (hcells hs) (k*2+1) [i64 a]=hcells (hs.set k ((Hn.at' hs k).1,a)):=(hc_set (by omega)).2
   rw[e]
   have H':Hn.Ok (hs.set k ((Hn.at' hs k).1,a)):=H.set (H.get k)
   refine en_call (han_told p H' hk') tks ?_
   rintro x' M ⟨rfl,rfl⟩
   try simp only[lca,lna]
   have hf:=Hn.free_is (hs:=hs) (by omega) h0' hz
   have e0:Hn.told (hs.set k ((Hn.at' hs k).1,a)) k=Hn.told hs k:=by unfold Hn.told;rw[Hn.at_set (by omega),if_pos rfl]
   have e1:Hn.holdR hs a=(Hn.told hs k,0):=by unfold Hn.holdR;rw[if_neg ha',hf]
   have e2:Hn.holdS hs a=hs.set k ((Hn.at' hs k).1,a):=by unfold Hn.holdS;rw[if_neg ha',hf]
   rw[e0,e1,e2]
   exact en_rets (x:=(Hn.told hs k,(0:Int),())) rfl ⟨rfl,rfl⟩ tks ens
  ·have h0':(Hn.at' hs k).2≠0:=by simpa using h0
   rw[wrap64 (by omega) (by omega)]
   refine hX (512-(k+1)) _ _ (by omega) ⟨k+1,by omega,rfl,rfl,rfl,fun j hj=> ?_⟩
   rcases Nat.lt_succ_iff_lt_or_eq.mp hj with h|rfl
   ·exact hz j h
   ·exact h0'
 ·have hk':k=512:=by have:¬(k:Int)<512:=of_decide_eq_false hc;omega
  subst hk'
  have hf:=Hn.free_isN (hs:=hs) (by rw[hl];exact hz)
  have e1:Hn.holdR hs a=(0,3):=by unfold Hn.holdR;rw[if_neg ha',hf]
  have e2:Hn.holdS hs a=hs:=by unfold Hn.holdS;rw[if_neg ha',hf]
  rw[e1,e2]
  exact en_rets (x:=((0:Int),(3:Int),())) rfl ⟨rfl,rfl⟩ tks ens
theorem han_find(p:Nat){hs:List Hn.Slot}(H:Hn.Ok hs)(x:Int):Gl.Spec ρ Tryz.prog 126 [.pointer (some ⟨p,0,none⟩),i64 x] [HanA p hs] IB
  fun r M=>(match Hn.find hs x with |some i=>i<512∧r=((i:Int),true,())|none=>r.2.1=false)∧M=[HanA p hs]:=by
 refine Gl.Spec.of (fun Q w h=>F.handle.Handles.find.calls (some ⟨p,0,none⟩) x h) fun R=> ?_
 unfold F.handle.Handles.find
 try simp only[lca,lna]
 have hl:=H.len
 refine en_brf rfl (en_br (fun hx=> ?_) (fun hx=> ?_))
 ·have hx':x<512:=of_decide_eq_true hx
  have e:Hn.find hs x=none:=by unfold Hn.find;rw[if_pos hx']
  rw[e]
  exact en_rets (x:=((0:Int),false,())) rfl ⟨rfl,rfl⟩ tks ens
 have hx':¬x<512:=of_decide_eq_false hx
 refine en_need (by decide) (en_nn ?_)
 have hm:Int.tmod x 512=((x%512).toNat:Nat):=by rw[Int.tmod_eq_emod_of_nonneg (by omega)];omega
 have hi:(x%512).toNat<512:=by omega
 rw[hm]
 refine en_ix (by omega) (by omega) ?_
 rw[fa_mk,fa_mk,fa_mk]
 generalize hk:(x%512).toNat=k at*
 rw[show 0+0+(k:Int).toNat*2+1=k*2+1 by omega]
 refine en_ld (k:= .int .i64) (off:=k*2+1) (x:=(Hn.at' hs k).2) rfl tk (hc_get (by omega)).2 ?_
 refine en_br (fun h0=> ?_) (fun h0=> ?_)
 ·have h0':(Hn.at' hs k).2≠0:=by simpa using h0
  refine en_call (han_told p H hi) tks ?_
  rintro x' M ⟨rfl,rfl⟩
  try simp only[lca,lna]
  by_cases ht:Hn.told hs k=x
  ·have e:Hn.find hs x=some k:=by unfold Hn.find;rw[if_neg hx',hk,if_pos ⟨h0',ht⟩]
   rw[e]
   refine en_rets (x:=((k:Int),true,())) ?_ ⟨⟨hi,rfl⟩,rfl⟩ tks ens
   rw[ht];simp[RK.val,kvals,KD.val,LK.val]
  ·have e:Hn.find hs x=none:=by unfold Hn.find;rw[if_neg hx',hk,if_neg fun h=>ht h.2]
   rw[e]
   refine en_rets (x:=((k:Int),false,())) ?_ ⟨rfl,rfl⟩ tks ens
   simp[RK.val,kvals,KD.val,LK.val,ht]
 ·have h0':(Hn.at' hs k).2=0:=by simpa using h0
  have e:Hn.find hs x=none:=by unfold Hn.find;rw[if_neg hx',hk,if_neg fun h=>h.1 h0']
  rw[e]
  exact en_rets (x:=((k:Int),false,())) rfl ⟨rfl,rfl⟩ tks ens
theorem han_drop(p:Nat){hs:List Hn.Slot}(H:Hn.Ok hs)(x:Int):Gl.Spec ρ Tryz.prog 82 [.pointer (some ⟨p,0,none⟩),i64 x] [HanA p hs] R1
  fun r M=>r=Hn.dropE hs x∧M=[HanA p (Hn.dropS hs x)]:=by
 refine Gl.Spec.of (fun Q w h=>F.handle.Handles.Drop.calls (some ⟨p,0,none⟩) x h) fun R=> ?_
 unfold F.handle.Handles.Drop
 try simp only[lca,lna]
 have hl:=H.len
 refine en_call (han_find p H x) tks ?_
 rintro⟨i,b,u⟩ M ⟨hr,rfl⟩
 try simp only[lca,lna]
 cases hf:Hn.find hs x with
 |none=>
  rw[hf]at hr
  have hr':b=false:=hr
  subst hr'
  refine en_brt rfl ?_
  have e1:Hn.dropE hs x=6:=by unfold Hn.dropE;rw[hf]
  have e2:Hn.dropS hs x=hs:=by unfold Hn.dropS;rw[hf]
  rw[e1,e2]
  exact en_rets (x:=(6:Int)) rfl ⟨rfl,rfl⟩ tks ens
 |some k=>
  rw[hf]at hr
  obtain⟨hk,hr⟩:=hr
  cases hr
  refine en_brf rfl (en_nn (en_ix (by omega) (by omega) ?_))
  rw[fa_mk,fa_mk,fa_mk]
  rw[show 0+0+(k:Int).toNat*2+1=k*2+1 by omega]
  refine en_st (off:=k*2+1) rfl tk (by rw[hc_len,List.length_singleton];omega) rfl ?_
  have e:setL (hcells hs) (k*2+1) [i64 0]=hcells (hs.set k ((Hn.at' hs k).1,0)):=(hc_set (by omega)).2
  rw[e]
  refine en_nn (en_ix (by omega) (by omega) ?_)
  rw[fa_mk,fa_mk,fa_mk]
  rw[show 0+0+(k:Int).toNat*2+0=k*2 by omega]
  have hg:(hcells (hs.set k ((Hn.at' hs k).1,0)))[k*2]? =some (i64 (Hn.at' hs k).1):=by
   rw[(hc_get (by rw[List.length_set];omega)).1,Hn.at_set (by omega),if_pos rfl]
  refine en_call (han_next p (k*2) _ hg (H.get k)) tks ?_
  rintro x' M rfl
  try simp only[lca,lna]
  have e3:(hcells (hs.set k ((Hn.at' hs k).1,0))).set (k*2) (i64 ((Hn.at' hs k).1+1))=hcells (hs.set k ((Hn.at' hs k).1+1,0)):=by
   rw[(hc_set (by rw[List.length_set];omega)).1,Hn.at_set (by omega),if_pos rfl,List.set_set]
  rw[e3]
  have e1:Hn.dropE hs x=0:=by unfold Hn.dropE;rw[hf]
  have e2:Hn.dropS hs x=hs.set k ((Hn.at' hs k).1+1,0):=by unfold Hn.dropS;rw[hf]
  rw[e1,e2]
  exact en_rets (x:=(0:Int)) rfl ⟨rfl,rfl⟩ tks ens
abbrev hcs(x:Int×Int):List Value:=[i64 x.1,i64 x.2]
theorem appHeld:appB Tryz.prog #[45,45] 2 16=true:=by kernel_rfl
theorem han_all(p:Nat){hs:List Hn.Slot}(H:Hn.Ok hs):Gl.Spec ρ Tryz.prog 25 [.pointer (some ⟨p,0,none⟩)] [HanA p hs] RS
  fun r M=>r.n=(Hn.all hs).length∧M=[SLc r 2 ((Hn.all hs).flatMap hcs),HanA p hs]:=by
 refine Gl.Spec.of (fun Q w h=>F.handle.Handles.All.calls (some ⟨p,0,none⟩) h) fun R=> ?_
 unfold F.handle.Handles.All
 try simp only[lca,lna]
 have hl:=H.len
 refine en_brf rfl ?_
 refine Tr.nilSL 2 ?_
 refine en_lp (I:=fun n s M=>∃(k:Nat) (t:Slc),k≤512∧n=512-k∧s=(t,(k:Int),())∧t.n=((List.range k).flatMap (Hn.all1 hs)).length∧M=SLc t 2 (((List.range k).flatMap (Hn.all1 hs)).flatMap hcs)::HanA p hs::R) 512 ⟨0,_,by omega,rfl,rfl,rfl,rfl⟩ ?_
 rintro n _ _ ⟨k,t,hk,rfl,rfl,ht,rfl⟩ X hX
 try simp only[lca,lna]
 have hln:=Hn.all_len (hs:=hs) k
 refine en_br (fun hc=> ?_) (fun hc=> ?_)
 ·have hk':k<512:=by have:(k:Int)<512:=of_decide_eq_true hc;omega
  refine en_nn (en_ix (by omega) (by omega) ?_)
  rw[fa_mk,fa_mk,fa_mk]
  rw[show 0+0+(k:Int).toNat*2+1=k*2+1 by omega]
  refine en_ld (k:= .int .i64) (off:=k*2+1) (x:=(Hn.at' hs k).2) rfl tk (hc_get (by omega)).2 ?_
  rw[wrap64 (n:=(k:Int)+1) (by omega) (by omega)]
  have es:(List.range (k+1)).flatMap (Hn.all1 hs)=(List.range k).flatMap (Hn.all1 hs)++Hn.all1 hs k:=by rw[List.range_succ,List.flatMap_append,List.flatMap_singleton]
  refine en_br (fun h0=> ?_) (fun h0=> ?_)
  ·have h0':(Hn.at' hs k).2≠0:=by simpa using h0
   refine en_drw (en_held [HanA p hs] tks ?_)
   refine en_nn (en_ix (by omega) (by omega) ?_)
   rw[fa_mk,fa_mk,fa_mk]
   rw[show 0+0+(k:Int).toNat*2+1=k*2+1 by omega]
   refine en_ldS (k:= .int .i64) (off:=k*2+1) (x:=(Hn.at' hs k).2) rfl tk (hc_get (by omega)).2 ?_
   refine en_call (han_told p H hk') tks ?_
   rintro x' M ⟨rfl,rfl⟩
   try simp only[lca,lna]
   refine en_chk tks ?_
   refine en_nw fun b=> ?_
   refine en_app (s:=t) (x:=⟨some ⟨b,0,none⟩,1,1⟩) (ys:=[i64 (Hn.told hs k),i64 (Hn.at' hs k).2]) appHeld tk (Rd.cl tk rfl rfl) rfl (by rw[ht];dsimp only;omega) (by rw[ht];dsimp only;omega) fun r hr=> ?_
   refine Tr.drop (A:=blk b [i64 (Hn.told hs k),i64 (Hn.at' hs k).2]) tk ?_
   have e1:Hn.all1 hs k=[(Hn.told hs k,(Hn.at' hs k).2)]:=by unfold Hn.all1;rw[if_pos h0']
   refine hX (512-(k+1)) _ _ (by omega) ⟨k+1,r,by omega,rfl,rfl,?_,?_⟩
   ·rw[hr,es,e1,List.length_append,ht];rfl
   ·rw[es,e1,List.flatMap_append];rfl
  ·have h0':(Hn.at' hs k).2=0:=by simpa using h0
   have e1:Hn.all1 hs k=[]:=by unfold Hn.all1;rw[if_neg fun h=>h h0']
   refine hX (512-(k+1)) _ _ (by omega) ⟨k+1,t,by omega,rfl,rfl,?_,?_⟩
   ·rw[es,e1,List.append_nil];exact ht
   ·rw[es,e1,List.append_nil]
 ·have hk':k=512:=by have:¬(k:Int)<512:=of_decide_eq_false hc;omega
  subst hk'
  have e:Hn.all hs=(List.range 512).flatMap (Hn.all1 hs):=by unfold Hn.all;rw[hl]
  rw[e]
  exact en_rets (x:=t) rfl ⟨ht,rfl⟩ tks ens
theorem han_new:Gl.Spec ρ Tryz.prog 37 [] [] (.one (.l .ptr)) fun r M=>∃p,r=some ⟨p,0,none⟩∧M=[HanA p (List.replicate 512 (0,0))]:=by
 refine Gl.Spec.of (fun Q w h=>F.handle.New.calls h) fun R=> ?_
 unfold F.handle.New
 refine en_nw fun b=> ?_
 have e:(List.replicate 1024 (.int .i64 0:Value))=hcells (List.replicate 512 (0,0)):=by kernel_rfl
 rw[e]
 exact en_rets (x:=some ⟨b,0,none⟩) rfl ⟨b,rfl,rfl⟩ tks ens
theorem root_place(p:Nat)(ro:List Int)(hl:ro.length=16)(i a:Int):Gl.Spec ρ Tryz.prog 83 [.pointer (some ⟨p,0,none⟩),i64 i,i64 a] [blk p (ro.map i64)] R1
  fun r M=>r=(if(0≤i∧i<16)∧0≤a then 0 else 1)∧M=[blk p ((if(0≤i∧i<16)∧0≤a then ro.set i.toNat a else ro).map i64)]:=by
 refine Gl.Spec.of (fun Q w h=>F.root.Roots.Place.calls (some ⟨p,0,none⟩) i a h) fun R=> ?_
 unfold F.root.Roots.Place
 have hp:Gl.Spec ρ Tryz.prog 128 [.pointer (some ⟨p,0,none⟩),i64 i] [] RB fun r M=>r=decide (0≤i∧i<16)∧M=[]:=by
  refine Gl.Spec.of (fun Q w h=>F.root.Roots.place.calls (some ⟨p,0,none⟩) i h) fun R=> ?_
  unfold F.root.Roots.place
  try simp only[lca,lna]
  refine en_brt rfl (en_br (fun h=> ?_) (fun h=> ?_))
  ·have h':i≥0:=of_decide_eq_true h
   refine en_rets (x:=decide (0≤i∧i<16)) ?_ ⟨rfl,rfl⟩ tks ens
   have:decide (0≤i∧i<16)=decide (i<16):=by rw[decide_eq_decide];omega
   rw[this];rfl
  ·have h':¬i≥0:=of_decide_eq_false h
   refine en_rets (x:=decide (0≤i∧i<16)) ?_ ⟨rfl,rfl⟩ tks ens
   have:decide (0≤i∧i<16)=false:=by rw[decide_eq_false_iff_not];omega
   rw[this];rfl
 try simp only[lca,lna]
 refine en_call hp tks ?_
 rintro x' M ⟨rfl,rfl⟩
 try simp only[lca,lna]
 refine en_br (fun h=> ?_) (fun h=> ?_)
 ·have h':¬(0≤i∧i<16):=by rw[Bool.not_eq_true']at h;exact of_decide_eq_false h
  rw[if_neg fun g=>h' g.1,if_neg fun g=>h' g.1]
  exact en_rets (x:=(1:Int)) rfl ⟨rfl,rfl⟩ tks ens
 ·have h':0≤i∧i<16:=by rw[Bool.not_eq_false']at h;exact of_decide_eq_true h
  refine en_br (fun h2=> ?_) (fun h2=> ?_)
  ·have h2':a<0:=of_decide_eq_true h2
   rw[if_neg fun g=>by omega,if_neg fun g=>by omega]
   exact en_rets (x:=(1:Int)) rfl ⟨rfl,rfl⟩ tks ens
  ·have h2':¬a<0:=of_decide_eq_false h2
   rw[if_pos ⟨h',by omega⟩,if_pos ⟨h',by omega⟩]
   refine en_nn (en_ix h'.1 (by omega) ?_)
   rw[fa_mk,fa_mk,show 0+0+i.toNat*1=i.toNat by omega]
   refine en_st (off:=i.toNat) rfl tk (by rw[List.length_map,List.length_singleton];omega) rfl ?_
   have e:setL (ro.map i64) i.toNat [i64 a]=(ro.set i.toNat a).map i64:=by simp[setL]
   rw[e]
   exact en_rets (x:=(0:Int)) rfl ⟨rfl,rfl⟩ tks ens
end Go.Proofs.YtfepdmpplahloaaGreat
