/- Handles, roots. -/
import Derived.Test.YtfepdmpplahloaaGreatGsRt
import Derived.Test.YtfepdmpplahloaaGreatGsTh
set_option linter.unusedSimpArgs false
set_option linter.unusedVariables false
namespace Go.Proofs.YtfepdmpplahloaaGreat
open Go Go.Gl
variable{ρ0 ρ:FR}{L L':List aA}{Post:Value→List aA→Prop}{T:Tree}
def cH(hs:List Hn.Slot):List Value:=hs.flatMap fun e=>[i64 e.1,i64 e.2]
theorem sL:∀(hs:List Hn.Slot),(cH hs).length=2*hs.length
 |[]=>rfl
 |e::hs=>by
  have:=sL hs
  simp only[cH,List.flatMap_cons,List.length_append,List.length_cons,List.length_nil]at this⊢
  omega
theorem ij:∀{hs:List Hn.Slot} {i:Nat},i<hs.length→(cH hs)[i*2]? =some (i64 (Hn.aQ hs i).1)∧(cH hs)[i*2+1]? =some (i64 (Hn.aQ hs i).2)
 |[],i,h=>by cases h
 |e::hs,0,_=>⟨rfl,rfl⟩
 |e::hs,i+1,h=>by
  have:=ij (hs:=hs) (i:=i) (Nat.lt_of_succ_lt_succ h)
  have e1:(i+1)*2=i*2+1+1:=by omega
  rw[e1]
  exact this
theorem kG:∀{hs:List Hn.Slot} {i:Nat} {x:Int},i<hs.length→(cH hs).set (i*2) (i64 x)=cH (hs.set i (x,(Hn.aQ hs i).2))∧(cH hs).set (i*2+1) (i64 x)=cH (hs.set i ((Hn.aQ hs i).1,x))
 |[],i,_,h=>by cases h
 |e::hs,0,_,_=>⟨rfl,rfl⟩
 |e::hs,i+1,x,h=>by
  have:=kG (hs:=hs) (i:=i) (x:=x) (Nat.lt_of_succ_lt_succ h)
  have e1:(i+1)*2=i*2+1+1:=by omega
  rw[e1]
  exact⟨congrArg (fun l=>i64 e.1::i64 e.2::l) this.1,congrArg (fun l=>i64 e.1::i64 e.2::l) this.2⟩
abbrev gf(p:Nat)(hs:List Hn.Slot):aA:=aw p (cH hs)
theorem Av(p o:Nat)(cs:List Value){n:Int}(h:cs[o]? =some (i64 n))(hn:0≤n∧n<2^50):Gl.Spec ρ Tryz.prog 106 [.pointer (some ⟨p,o,none⟩)] [aw p cs] R1
  fun r M=>r=n+1∧M=[aw p cs]:=by
 refine Gl.Spec.of (fun Q w h=>F.handle.turns.ni.calls (some ⟨p,o,none⟩) h) fun R=> ?_
 unfold F.handle.turns.ni
 try simp only[aq,al]
 refine ah ?_
 refine ai (k:= .int .i64) (off:=o) (x:=n) (by rw[af];rfl) tk h ?_
 rw[wrap64 (by omega) (by omega)]
 exact aa (x:=n+1) rfl ⟨rfl,rfl⟩ ag aB
theorem zv(p o:Nat)(cs:List Value){n:Int}(h:cs[o]? =some (i64 n))(hn:0≤n∧n<2^50):Gl.Spec ρ Tryz.prog 127 [.pointer (some ⟨p,o,none⟩)] [aw p cs] (.many [])
  fun _ M=>M=[aw p (cs.set o (i64 (n+1)))]:=by
 refine Gl.Spec.of (fun Q w h=>F.handle.turns.next.calls (some ⟨p,o,none⟩) h) fun R=> ?_
 unfold F.handle.turns.next
 try simp only[aq,al]
 refine ah ?_
 refine ai (k:= .int .i64) (off:=o) (x:=n) (by rw[af];rfl) tk h ?_
 rw[wrap64 (by omega) (by omega)]
 refine ah ?_
 have ho:o<cs.length:=by
  rcases Nat.lt_or_ge o cs.length with h'|h'
  ·exact h'
  ·rw[List.getElem?_eq_none h']at h;cases h
 refine aL (off:=o) (by rw[af];rfl) tk (by rw[List.length_singleton];omega) rfl ?_
 have e:bN cs o [i64 (n+1)]=cs.set o (i64 (n+1)):=rfl
 rw[e]
 exact aa (x:=()) rfl rfl ag aB
theorem oY(p:Nat){hs:List Hn.Slot}(H:Hn.Ok hs){i:Nat}(hi:i<512):Gl.Spec ρ Tryz.prog 63 [.pointer (some ⟨p,0,none⟩),i64 i] [gf p hs] R1
  fun r M=>r=Hn.told hs i∧M=[gf p hs]:=by
 refine Gl.Spec.of (fun Q w h=>F.handle.aW.told.calls (some ⟨p,0,none⟩) i h) fun R=> ?_
 unfold F.handle.aW.told
 try simp only[aq,al]
 refine ah (iO (by omega) (by omega) ?_)
 rw[af,af,af]
 have hl:=H.len
 have hg:=H.get i
 rw[show 0+0+(i:Int).toNat*2+0=i*2 by omega]
 refine ae (Av p (i*2) (cH hs) (ij (by omega)).1 hg) ag ?_
 rintro x' M ⟨rfl,rfl⟩
 try simp only[aq,al]
 have e:IntKind.wrap .i64 ((i:Int)+IntKind.wrap .i64 (512*((Hn.aQ hs i).1+1)))=Hn.told hs i:=by
  rw[wrap64 (n:=512*((Hn.aQ hs i).1+1)) (by omega) (by omega),wrap64 (by omega) (by omega)];rfl
 rw[e]
 exact aa (x:=Hn.told hs i) rfl ⟨rfl,rfl⟩ ag aB
theorem zV(p:Nat){hs:List Hn.Slot}(H:Hn.Ok hs)(a:Int):Gl.Spec ρ Tryz.prog 124 [.pointer (some ⟨p,0,none⟩),i64 a] [gf p hs] P2
  fun r M=>r=((Hn.iR hs a).1,(Hn.iR hs a).2,())∧M=[gf p (Hn.du hs a)]:=by
 refine Gl.Spec.of (fun Q w h=>F.handle.aW.xK.calls (some ⟨p,0,none⟩) a h) fun R=> ?_
 unfold F.handle.aW.xK
 try simp only[aq,al]
 have hl:=H.len
 refine ak rfl (aj (fun ha=> ?_) (fun ha=> ?_))
 ·have ha':a<1:=of_decide_eq_true ha
  have e1:Hn.iR hs a=(0,1):=by unfold Hn.iR;rw[if_pos ha']
  have e2:Hn.du hs a=hs:=by unfold Hn.du;rw[if_pos ha']
  rw[e1,e2]
  exact aa (x:=((0:Int),(1:Int),())) rfl ⟨rfl,rfl⟩ ag aB
 have ha':¬a<1:=of_decide_eq_false ha
 refine aP (I:=fun n s M=>∃k:Nat,k≤512∧n=512-k∧s=((k:Int),())∧M=gf p hs::R∧∀j,j<k→(Hn.aQ hs j).2≠0) 512 ⟨0,by omega,rfl,rfl,rfl,fun j hj=>by omega⟩ ?_
 rintro n _ _ ⟨k,hk,rfl,rfl,rfl,hz⟩ X hX
 try simp only[aq,al]
 refine aj (fun hc=> ?_) (fun hc=> ?_)
 ·have hk':k<512:=by have:(k:Int)<512:=of_decide_eq_true hc;omega
  refine ah (iO (by omega) (by omega) ?_)
  rw[af,af,af]
  rw[show 0+0+(k:Int).toNat*2+1=k*2+1 by omega]
  refine ai (k:= .int .i64) (off:=k*2+1) (x:=(Hn.aQ hs k).2) rfl tk (ij (by omega)).2 ?_
  refine aj (fun h0=> ?_) (fun h0=> ?_)
  ·have h0':(Hn.aQ hs k).2=0:=by simpa using h0
   refine ah (iO (by omega) (by omega) ?_)
   rw[af,af,af]
   rw[show 0+0+(k:Int).toNat*2+1=k*2+1 by omega]
   refine aL (off:=k*2+1) rfl tk (by rw[sL,List.length_singleton];omega) rfl ?_
   have e:bN (cH hs) (k*2+1) [i64 a]=cH (hs.set k ((Hn.aQ hs k).1,a)):=(kG (by omega)).2
   rw[e]
   have H':Hn.Ok (hs.set k ((Hn.aQ hs k).1,a)):=H.set (H.get k)
   refine ae (oY p H' hk') ag ?_
   rintro x' M ⟨rfl,rfl⟩
   try simp only[aq,al]
   have hf:=Hn.Cc (hs:=hs) (by omega) h0' hz
   have e0:Hn.told (hs.set k ((Hn.aQ hs k).1,a)) k=Hn.told hs k:=by unfold Hn.told;rw[Hn.nM (by omega),if_pos rfl]
   have e1:Hn.iR hs a=(Hn.told hs k,0):=by unfold Hn.iR;rw[if_neg ha',hf]
   have e2:Hn.du hs a=hs.set k ((Hn.aQ hs k).1,a):=by unfold Hn.du;rw[if_neg ha',hf]
   rw[e0,e1,e2]
   exact aa (x:=(Hn.told hs k,(0:Int),())) rfl ⟨rfl,rfl⟩ ag aB
  ·have h0':(Hn.aQ hs k).2≠0:=by simpa using h0
   rw[wrap64 (by omega) (by omega)]
   refine hX (512-(k+1)) _ _ (by omega) ⟨k+1,by omega,rfl,rfl,rfl,fun j hj=> ?_⟩
   rcases Nat.lt_succ_iff_lt_or_eq.mp hj with h|rfl
   ·exact hz j h
   ·exact h0'
 ·have hk':k=512:=by have:¬(k:Int)<512:=of_decide_eq_false hc;omega
  subst hk'
  have hf:=Hn.uA (hs:=hs) (by rw[hl];exact hz)
  have e1:Hn.iR hs a=(0,3):=by unfold Hn.iR;rw[if_neg ha',hf]
  have e2:Hn.du hs a=hs:=by unfold Hn.du;rw[if_neg ha',hf]
  rw[e1,e2]
  exact aa (x:=((0:Int),(3:Int),())) rfl ⟨rfl,rfl⟩ ag aB
theorem sV(p:Nat){hs:List Hn.Slot}(H:Hn.Ok hs)(x:Int):Gl.Spec ρ Tryz.prog 126 [.pointer (some ⟨p,0,none⟩),i64 x] [gf p hs] IB
  fun r M=>(match Hn.find hs x with |some i=>i<512∧r=((i:Int),true,())|none=>r.2.1=false)∧M=[gf p hs]:=by
 refine Gl.Spec.of (fun Q w h=>F.handle.aW.find.calls (some ⟨p,0,none⟩) x h) fun R=> ?_
 unfold F.handle.aW.find
 try simp only[aq,al]
 have hl:=H.len
 refine ak rfl (aj (fun hx=> ?_) (fun hx=> ?_))
 ·have hx':x<512:=of_decide_eq_true hx
  have e:Hn.find hs x=none:=by unfold Hn.find;rw[if_pos hx']
  rw[e]
  exact aa (x:=((0:Int),false,())) rfl ⟨rfl,rfl⟩ ag aB
 have hx':¬x<512:=of_decide_eq_false hx
 refine bu (by decide) (ah ?_)
 have hm:Int.tmod x 512=((x%512).toNat:Nat):=by rw[Int.tmod_eq_emod_of_nonneg (by omega)];omega
 have hi:(x%512).toNat<512:=by omega
 rw[hm]
 refine iO (by omega) (by omega) ?_
 rw[af,af,af]
 generalize hk:(x%512).toNat=k at*
 rw[show 0+0+(k:Int).toNat*2+1=k*2+1 by omega]
 refine ai (k:= .int .i64) (off:=k*2+1) (x:=(Hn.aQ hs k).2) rfl tk (ij (by omega)).2 ?_
 refine aj (fun h0=> ?_) (fun h0=> ?_)
 ·have h0':(Hn.aQ hs k).2≠0:=by simpa using h0
  refine ae (oY p H hi) ag ?_
  rintro x' M ⟨rfl,rfl⟩
  try simp only[aq,al]
  by_cases ht:Hn.told hs k=x
  ·have e:Hn.find hs x=some k:=by unfold Hn.find;rw[if_neg hx',hk,if_pos ⟨h0',ht⟩]
   rw[e]
   refine aa (x:=((k:Int),true,())) ?_ ⟨⟨hi,rfl⟩,rfl⟩ ag aB
   rw[ht];simp[RK.val,iY,KD.val,LK.val]
  ·have e:Hn.find hs x=none:=by unfold Hn.find;rw[if_neg hx',hk,if_neg fun h=>ht h.2]
   rw[e]
   refine aa (x:=((k:Int),false,())) ?_ ⟨rfl,rfl⟩ ag aB
   simp[RK.val,iY,KD.val,LK.val,ht]
 ·have h0':(Hn.aQ hs k).2=0:=by simpa using h0
  have e:Hn.find hs x=none:=by unfold Hn.find;rw[if_neg hx',hk,if_neg fun h=>h.1 h0']
  rw[e]
  exact aa (x:=((k:Int),false,())) rfl ⟨rfl,rfl⟩ ag aB
theorem zA(p:Nat){hs:List Hn.Slot}(H:Hn.Ok hs)(x:Int):Gl.Spec ρ Tryz.prog 82 [.pointer (some ⟨p,0,none⟩),i64 x] [gf p hs] R1
  fun r M=>r=Hn.mj hs x∧M=[gf p (Hn.gG hs x)]:=by
 refine Gl.Spec.of (fun Q w h=>F.handle.aW.Drop.calls (some ⟨p,0,none⟩) x h) fun R=> ?_
 unfold F.handle.aW.Drop
 try simp only[aq,al]
 have hl:=H.len
 refine ae (sV p H x) ag ?_
 rintro⟨i,b,u⟩ M ⟨hr,rfl⟩
 try simp only[aq,al]
 cases hf:Hn.find hs x with
 |none=>
  rw[hf]at hr
  have hr':b=false:=hr
  subst hr'
  refine aH rfl ?_
  have e1:Hn.mj hs x=6:=by unfold Hn.mj;rw[hf]
  have e2:Hn.gG hs x=hs:=by unfold Hn.gG;rw[hf]
  rw[e1,e2]
  exact aa (x:=(6:Int)) rfl ⟨rfl,rfl⟩ ag aB
 |some k=>
  rw[hf]at hr
  obtain⟨hk,hr⟩:=hr
  cases hr
  refine ak rfl (ah (iO (by omega) (by omega) ?_))
  rw[af,af,af]
  rw[show 0+0+(k:Int).toNat*2+1=k*2+1 by omega]
  refine aL (off:=k*2+1) rfl tk (by rw[sL,List.length_singleton];omega) rfl ?_
  have e:bN (cH hs) (k*2+1) [i64 0]=cH (hs.set k ((Hn.aQ hs k).1,0)):=(kG (by omega)).2
  rw[e]
  refine ah (iO (by omega) (by omega) ?_)
  rw[af,af,af]
  rw[show 0+0+(k:Int).toNat*2+0=k*2 by omega]
  have hg:(cH (hs.set k ((Hn.aQ hs k).1,0)))[k*2]? =some (i64 (Hn.aQ hs k).1):=by
   rw[(ij (by rw[List.length_set];omega)).1,Hn.nM (by omega),if_pos rfl]
  refine ae (zv p (k*2) _ hg (H.get k)) ag ?_
  rintro x' M rfl
  try simp only[aq,al]
  have e3:(cH (hs.set k ((Hn.aQ hs k).1,0))).set (k*2) (i64 ((Hn.aQ hs k).1+1))=cH (hs.set k ((Hn.aQ hs k).1+1,0)):=by
   rw[(kG (by rw[List.length_set];omega)).1,Hn.nM (by omega),if_pos rfl,List.set_set]
  rw[e3]
  have e1:Hn.mj hs x=0:=by unfold Hn.mj;rw[hf]
  have e2:Hn.gG hs x=hs.set k ((Hn.aQ hs k).1+1,0):=by unfold Hn.gG;rw[hf]
  rw[e1,e2]
  exact aa (x:=(0:Int)) rfl ⟨rfl,rfl⟩ ag aB
abbrev qs(x:Int×Int):List Value:=[i64 x.1,i64 x.2]
theorem B8:lU Tryz.prog #[45,45] 2 16=true:=by kernel_rfl
theorem w6(p:Nat){hs:List Hn.Slot}(H:Hn.Ok hs):Gl.Spec ρ Tryz.prog 25 [.pointer (some ⟨p,0,none⟩)] [gf p hs] RS
  fun r M=>r.n=(Hn.all hs).length∧M=[aE r 2 ((Hn.all hs).flatMap qs),gf p hs]:=by
 refine Gl.Spec.of (fun Q w h=>F.handle.aW.wX.calls (some ⟨p,0,none⟩) h) fun R=> ?_
 unfold F.handle.aW.wX
 try simp only[aq,al]
 have hl:=H.len
 refine ak rfl ?_
 refine Tr.cq 2 ?_
 refine aP (I:=fun n s M=>∃(k:Nat) (t:ay),k≤512∧n=512-k∧s=(t,(k:Int),())∧t.n=((List.range k).flatMap (Hn.jo hs)).length∧M=aE t 2 (((List.range k).flatMap (Hn.jo hs)).flatMap qs)::gf p hs::R) 512 ⟨0,_,by omega,rfl,rfl,rfl,rfl⟩ ?_
 rintro n _ _ ⟨k,t,hk,rfl,rfl,ht,rfl⟩ X hX
 try simp only[aq,al]
 have hln:=Hn.fF (hs:=hs) k
 refine aj (fun hc=> ?_) (fun hc=> ?_)
 ·have hk':k<512:=by have:(k:Int)<512:=of_decide_eq_true hc;omega
  refine ah (iO (by omega) (by omega) ?_)
  rw[af,af,af]
  rw[show 0+0+(k:Int).toNat*2+1=k*2+1 by omega]
  refine ai (k:= .int .i64) (off:=k*2+1) (x:=(Hn.aQ hs k).2) rfl tk (ij (by omega)).2 ?_
  rw[wrap64 (n:=(k:Int)+1) (by omega) (by omega)]
  have es:(List.range (k+1)).flatMap (Hn.jo hs)=(List.range k).flatMap (Hn.jo hs)++Hn.jo hs k:=by rw[List.range_succ,List.flatMap_append,List.flatMap_singleton]
  refine aj (fun h0=> ?_) (fun h0=> ?_)
  ·have h0':(Hn.aQ hs k).2≠0:=by simpa using h0
   refine aK (aR [gf p hs] ag ?_)
   refine ah (iO (by omega) (by omega) ?_)
   rw[af,af,af]
   rw[show 0+0+(k:Int).toNat*2+1=k*2+1 by omega]
   refine ar (k:= .int .i64) (off:=k*2+1) (x:=(Hn.aQ hs k).2) rfl tk (ij (by omega)).2 ?_
   refine ae (oY p H hk') ag ?_
   rintro x' M ⟨rfl,rfl⟩
   try simp only[aq,al]
   refine aN ag ?_
   refine ax fun b=> ?_
   refine df (s:=t) (x:=⟨some ⟨b,0,none⟩,1,1⟩) (ys:=[i64 (Hn.told hs k),i64 (Hn.aQ hs k).2]) B8 tk (Rd.cl tk rfl rfl) rfl (by rw[ht];dsimp only;omega) (by rw[ht];dsimp only;omega) fun r hr=> ?_
   refine Tr.drop (A:=aw b [i64 (Hn.told hs k),i64 (Hn.aQ hs k).2]) tk ?_
   have e1:Hn.jo hs k=[(Hn.told hs k,(Hn.aQ hs k).2)]:=by unfold Hn.jo;rw[if_pos h0']
   refine hX (512-(k+1)) _ _ (by omega) ⟨k+1,r,by omega,rfl,rfl,?_,?_⟩
   ·rw[hr,es,e1,List.length_append,ht];rfl
   ·rw[es,e1,List.flatMap_append];rfl
  ·have h0':(Hn.aQ hs k).2=0:=by simpa using h0
   have e1:Hn.jo hs k=[]:=by unfold Hn.jo;rw[if_neg fun h=>h h0']
   refine hX (512-(k+1)) _ _ (by omega) ⟨k+1,t,by omega,rfl,rfl,?_,?_⟩
   ·rw[es,e1,List.append_nil];exact ht
   ·rw[es,e1,List.append_nil]
 ·have hk':k=512:=by have:¬(k:Int)<512:=of_decide_eq_false hc;omega
  subst hk'
  have e:Hn.all hs=(List.range 512).flatMap (Hn.jo hs):=by unfold Hn.all;rw[hl]
  rw[e]
  exact aa (x:=t) rfl ⟨ht,rfl⟩ ag aB
theorem Ct:Gl.Spec ρ Tryz.prog 37 [] [] (.one (.l .ptr)) fun r M=>∃p,r=some ⟨p,0,none⟩∧M=[gf p (List.replicate 512 (0,0))]:=by
 refine Gl.Spec.of (fun Q w h=>F.handle.dc.calls h) fun R=> ?_
 unfold F.handle.dc
 refine ax fun b=> ?_
 have e:(List.replicate 1024 (.int .i64 0:Value))=cH (List.replicate 512 (0,0)):=by kernel_rfl
 rw[e]
 exact aa (x:=some ⟨b,0,none⟩) rfl ⟨b,rfl,rfl⟩ ag aB
theorem pK(p:Nat)(ro:List Int)(hl:ro.length=16)(i a:Int):Gl.Spec ρ Tryz.prog 83 [.pointer (some ⟨p,0,none⟩),i64 i,i64 a] [aw p (ro.map i64)] R1
  fun r M=>r=(if(0≤i∧i<16)∧0≤a then 0 else 1)∧M=[aw p ((if(0≤i∧i<16)∧0≤a then ro.set i.toNat a else ro).map i64)]:=by
 refine Gl.Spec.of (fun Q w h=>F.root.de.Place.calls (some ⟨p,0,none⟩) i a h) fun R=> ?_
 unfold F.root.de.Place
 have hp:Gl.Spec ρ Tryz.prog 128 [.pointer (some ⟨p,0,none⟩),i64 i] [] RB fun r M=>r=decide (0≤i∧i<16)∧M=[]:=by
  refine Gl.Spec.of (fun Q w h=>F.root.de.place.calls (some ⟨p,0,none⟩) i h) fun R=> ?_
  unfold F.root.de.place
  try simp only[aq,al]
  refine aH rfl (aj (fun h=> ?_) (fun h=> ?_))
  ·have h':i≥0:=of_decide_eq_true h
   refine aa (x:=decide (0≤i∧i<16)) ?_ ⟨rfl,rfl⟩ ag aB
   have:decide (0≤i∧i<16)=decide (i<16):=by rw[decide_eq_decide];omega
   rw[this];rfl
  ·have h':¬i≥0:=of_decide_eq_false h
   refine aa (x:=decide (0≤i∧i<16)) ?_ ⟨rfl,rfl⟩ ag aB
   have:decide (0≤i∧i<16)=false:=by rw[decide_eq_false_iff_not];omega
   rw[this];rfl
 try simp only[aq,al]
 refine ae hp ag ?_
 rintro x' M ⟨rfl,rfl⟩
 try simp only[aq,al]
 refine aj (fun h=> ?_) (fun h=> ?_)
 ·have h':¬(0≤i∧i<16):=by rw[Bool.not_eq_true']at h;exact of_decide_eq_false h
  rw[if_neg fun g=>h' g.1,if_neg fun g=>h' g.1]
  exact aa (x:=(1:Int)) rfl ⟨rfl,rfl⟩ ag aB
 ·have h':0≤i∧i<16:=by rw[Bool.not_eq_false']at h;exact of_decide_eq_true h
  refine aj (fun h2=> ?_) (fun h2=> ?_)
  ·have h2':a<0:=of_decide_eq_true h2
   rw[if_neg fun g=>by omega,if_neg fun g=>by omega]
   exact aa (x:=(1:Int)) rfl ⟨rfl,rfl⟩ ag aB
  ·have h2':¬a<0:=of_decide_eq_false h2
   rw[if_pos ⟨h',by omega⟩,if_pos ⟨h',by omega⟩]
   refine ah (iO h'.1 (by omega) ?_)
   rw[af,af,show 0+0+i.toNat*1=i.toNat by omega]
   refine aL (off:=i.toNat) rfl tk (by rw[List.length_map,List.length_singleton];omega) rfl ?_
   have e:bN (ro.map i64) i.toNat [i64 a]=(ro.set i.toNat a).map i64:=by simp[bN]
   rw[e]
   exact aa (x:=(0:Int)) rfl ⟨rfl,rfl⟩ ag aB
end Go.Proofs.YtfepdmpplahloaaGreat
