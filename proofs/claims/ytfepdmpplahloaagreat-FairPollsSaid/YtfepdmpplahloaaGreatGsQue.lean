/- Queues. -/
import Derived.Test.YtfepdmpplahloaaGreatGsHan
set_option linter.unusedSimpArgs false
set_option linter.unusedVariables false
namespace Go.Proofs.YtfepdmpplahloaaGreat
open Go Go.Gl
variable{ρ0 ρ:FR}{L L':List aA}{Post:Value→List aA→Prop}{T:Tree}
abbrev dW(rows:List (List Int)):List Value:=cH (rows.map Qu.ends)
theorem rC(rows:List (List Int))(i:Nat):Hn.aQ (rows.map Qu.ends) i=Qu.ends (rows.getD i []):=by
 unfold Hn.aQ
 rw[List.getD_eq_getElem?_getD,List.getD_eq_getElem?_getD,List.getElem?_map]
 cases rows[i]? <;>rfl
theorem kC(rows:List (List Int)):(dW rows).length=2*rows.length:=by rw[sL,List.length_map]
theorem mL{rows:List (List Int)}{i:Nat}(h:i<rows.length):(dW rows)[i*2]? =some (i64 ((rows.getD i []).headD 0))∧(dW rows)[i*2+1]? =some (i64 ((rows.getD i []).getLastD 0)):=by
 have:=ij (hs:=rows.map Qu.ends) (i:=i) (by rw[List.length_map];exact h)
 rw[rC]at this
 exact this
theorem tJ{rows:List (List Int)}{i:Nat}{r:List Int}(h:i<rows.length):((dW rows).set (i*2) (i64 (r.headD 0))).set (i*2+1) (i64 (r.getLastD 0))=dW (rows.set i r):=by
 have hl:i<(rows.map Qu.ends).length:=by rw[List.length_map];exact h
 rw[(kG (x:=r.headD 0) hl).1,(kG (by rw[List.length_set];exact hl)).2,Hn.nM hl,if_pos rfl,List.set_set]
 unfold dW
 rw[List.map_set];rfl
theorem ya{rows:List (List Int)}{i:Nat}{r:List Int}(h:i<rows.length)(he:r.headD 0=(rows.getD i []).headD 0):(dW rows).set (i*2+1) (i64 (r.getLastD 0))=dW (rows.set i r):=by
 have hl:i<(rows.map Qu.ends).length:=by rw[List.length_map];exact h
 rw[(kG (x:=r.getLastD 0) hl).2,rC]
 unfold dW
 rw[List.map_set]
 have:Qu.ends r=((Qu.ends (rows.getD i [])).1,r.getLastD 0):=by unfold Qu.ends;rw[he]
 rw[this]
theorem uV{rows:List (List Int)}{i:Nat}{r:List Int}(h:i<rows.length)(he:r.getLastD 0=(rows.getD i []).getLastD 0):(dW rows).set (i*2) (i64 (r.headD 0))=dW (rows.set i r):=by
 have hl:i<(rows.map Qu.ends).length:=by rw[List.length_map];exact h
 rw[(kG (x:=r.headD 0) hl).1,rC]
 unfold dW
 rw[List.map_set]
 have:Qu.ends r=(r.headD 0,(Qu.ends (rows.getD i [])).2):=by unfold Qu.ends;rw[he]
 rw[this]
def bP(p hp:Nat)(rows:List (List Int)):aA:=fun h=>∃s:ay,s.n=rows.length∧star [aw p [.pointer (some ⟨hp,0,none⟩),.slice s.a s.n s.c],aE s 2 (dW rows)] h
theorem bP.op{p hp:Nat}{rows:List (List Int)}(t:Take L (bP p hp rows) L')(h:∀s:ay,s.n=rows.length→Tr ρ0 ρ (aw p [.pointer (some ⟨hp,0,none⟩),.slice s.a s.n s.c]::aE s 2 (dW rows)::L') T Post):Tr ρ0 ρ L T Post:=
 Tr.gh (M:=fun s:ay=>[aw p [.pointer (some ⟨hp,0,none⟩),.slice s.a s.n s.c],aE s 2 (dW rows)]) t (fun _ h=>h) h
theorem bP.cl{p hp:Nat}{rows:List (List Int)}{s:ay}(hs:s.n=rows.length)(h:HP)(H:star [aw p [.pointer (some ⟨hp,0,none⟩),.slice s.a s.n s.c],aE s 2 (dW rows)] h):bP p hp rows h:=⟨s,hs,H⟩
theorem Cf(hp:Nat):Gl.Spec ρ Tryz.prog 73 [.pointer (some ⟨hp,0,none⟩)] [] (.one (.l .ptr)) fun r M=>∃p,r=some ⟨p,0,none⟩∧M=[bP p hp []]:=by
 refine Gl.Spec.of (fun Q w h=>F.queue.dc.calls (some ⟨hp,0,none⟩) h) fun R=> ?_
 unfold F.queue.dc
 try simp only[aq,al]
 refine ak rfl (ax fun b=> ?_)
 refine Tr.cq 2 ?_
 refine Tr.close (M:=[aw b [.pointer (some ⟨hp,0,none⟩),.slice none 0 0],aE ⟨none,0,0⟩ 2 []]) ag (bP.cl (p:=b) (hp:=hp) (rows:=[]) (s:=⟨none,0,0⟩) rfl) ?_
 exact aa (x:=some ⟨b,0,none⟩) rfl ⟨b,rfl,rfl⟩ ag aB
theorem iI(p hp:Nat)(rows:List (List Int)):Gl.Spec ρ Tryz.prog 65 [.pointer (some ⟨p,0,none⟩)] [bP p hp rows] R1 fun r M=>r=(rows.length:Nat)∧M=[bP p hp rows]:=by
 refine Gl.Spec.of (fun Q w h=>F.queue.bp.bp.calls (some ⟨p,0,none⟩) h) fun R=> ?_
 unfold F.queue.bp.bp
 try simp only[aq,al]
 refine ak rfl (ah (bP.op tk fun s hs=> ?_))
 refine ai (k:= .slice) (off:=1) (x:=s) (by rw[af]) tk rfl ?_
 refine Tr.close ag (bP.cl (p:=p) (hp:=hp) (rows:=rows) hs) ?_
 rw[hs]
 exact aa (x:=((rows.length:Nat):Int)) rfl ⟨rfl,rfl⟩ ag aB
theorem oP(p hp:Nat)(rows:List (List Int))(i:Int):Gl.Spec ρ Tryz.prog 107 [.pointer (some ⟨p,0,none⟩),i64 i] [bP p hp rows] RB fun r M=>r=Qu.has rows i∧M=[bP p hp rows]:=by
 refine Gl.Spec.of (fun Q w h=>F.queue.bp.has.calls (some ⟨p,0,none⟩) i h) fun R=> ?_
 unfold F.queue.bp.has
 try simp only[aq,al]
 refine aj (fun h=> ?_) (fun h=> ?_)
 ·have h':i≥0:=of_decide_eq_true h
  refine ae (iI p hp rows) ag ?_
  rintro x' M ⟨rfl,rfl⟩
  try simp only[aq,al]
  refine aa (x:=Qu.has rows i) ?_ ⟨rfl,rfl⟩ ag aB
  have:Qu.has rows i=decide (i<(rows.length:Nat)):=by unfold Qu.has;rw[decide_eq_decide];omega
  rw[this];rfl
 ·have h':¬i≥0:=of_decide_eq_false h
  refine aa (x:=Qu.has rows i) ?_ ⟨rfl,rfl⟩ ag aB
  have:Qu.has rows i=false:=by unfold Qu.has;rw[decide_eq_false_iff_not];omega
  rw[this];rfl
theorem BS:lU Tryz.prog #[96,96] 2 16=true:=by kernel_rfl
theorem AE(p hp:Nat)(rows:List (List Int))(hr:rows.length≤8):Gl.Spec ρ Tryz.prog 94 [.pointer (some ⟨p,0,none⟩)] [bP p hp rows] P2
  fun r M=>r=(if rows.length=8 then((0:Int),(3:Int),())else(((rows.length:Nat):Int),(0:Int),()))∧M=[bP p hp (if rows.length=8 then rows else rows++[[]])]:=by
 refine Gl.Spec.of (fun Q w h=>F.queue.bp.Open.calls (some ⟨p,0,none⟩) h) fun R=> ?_
 unfold F.queue.bp.Open
 try simp only[aq,al]
 refine ak rfl (ah (bP.op tk fun s hs=> ?_))
 refine ai (k:= .slice) (off:=1) (x:=s) (by rw[af]) tk rfl ?_
 refine aj (fun h=> ?_) (fun h=> ?_)
 ·have h':((s.n:Nat):Int)≥8:=of_decide_eq_true h
  have h8:rows.length=8:=by omega
  refine Tr.close ag (bP.cl (p:=p) (hp:=hp) (rows:=rows) hs) ?_
  rw[if_pos h8,if_pos h8]
  exact aa (x:=((0:Int),(3:Int),())) rfl ⟨rfl,rfl⟩ ag aB
 ·have h':¬((s.n:Nat):Int)≥8:=of_decide_eq_false h
  have h8:rows.length≠8:=by omega
  rw[if_neg h8,if_neg h8]
  refine ah ?_
  refine ai (k:= .slice) (off:=1) (x:=s) (by rw[af]) tk rfl ?_
  refine ax fun b=> ?_
  refine df (s:=s) (x:=⟨some ⟨b,0,none⟩,1,1⟩) (ys:=[i64 0,i64 0]) BS tk (Rd.cl tk rfl rfl) rfl (by dsimp only;omega) (by dsimp only;omega) fun r hr=> ?_
  refine Tr.drop (A:=aw b [i64 0,i64 0]) tk ?_
  refine ah ?_
  refine aL (off:=1) (by rw[af]) tk (by simp) rfl ?_
  refine ah ?_
  have e:bN [.pointer (some ⟨hp,0,none⟩),.slice s.a s.n s.c] 1 [.slice r.a r.n r.c]=[.pointer (some ⟨hp,0,none⟩),.slice r.a r.n r.c]:=rfl
  rw[e]
  refine ai (k:= .slice) (off:=1) (x:=r) (by rw[af]) tk rfl ?_
  have hrn:r.n=(rows++[[]]).length:=by rw[hr,hs,List.length_append];rfl
  have e2:dW rows++[i64 0,i64 0]=dW (rows++[[]]):=by unfold dW cH;rw[List.map_append,List.flatMap_append];rfl
  rw[e2]
  refine Tr.close ag (bP.cl (p:=p) (hp:=hp) (rows:=rows++[[]]) hrn) ?_
  have hw:IntKind.wrap .i64 ((r.n:Nat)-1)=(rows.length:Nat):=by
   rw[List.length_append,List.length_singleton]at hrn
   rw[wrap64 (by omega) (by omega)];omega
  rw[hw]
  exact aa (x:=(((rows.length:Nat):Int),(0:Int),())) rfl ⟨rfl,rfl⟩ ag aB
theorem aM{S:aD}{a:Int}(h:Qu.ba S a=true):∃hd,Ob.head S a=some hd∧hd.k=4:=by
 unfold Qu.ba at h
 split at h
 ·rename_i hd hh;exact⟨hd,hh,by simpa using h⟩
 ·cases h
theorem dm{S:aD}{cs:List aS}(hw:aO S cs){a:Int}{hd:Hd}(hh:Ob.head S a=some hd)(hk:hd.k=4):hd.n=5:=by
 have:=Ob.mQ hw hh
 unfold Sp.cC at this
 simp[hk]at this
 omega
theorem vN{S:aD}{a i x:Int}{h:Hd}(hh:Ob.head S a=some h)(h0:0≤i)(h1:i<h.n):(Ob.put S a i x).1=0:=by
 have e:Ob.fieldAt S a i=(a+1+i,0):=by
  unfold Ob.fieldAt
  rw[hh]
  exact if_neg (by omega)
 unfold Ob.put
 rw[e];rfl
theorem vn{S:aD}{a i x:Int}(h:(Ob.get S a i).2=0):(Ob.put S a i x).1=0:=by
 unfold Ob.get at h
 unfold Ob.put
 by_cases g:(Ob.fieldAt S a i).2=0
 ·rw[if_neg (fun h=>h g)]
 ·rw[if_pos g]at h;exact absurd h g
theorem ib{rows:List (List Int)}{i:Int}(h:Qu.has rows i=true):0≤i∧i.toNat<rows.length:=by
 unfold Qu.has at h
 have:=of_decide_eq_true h
 omega
theorem jj{rows:List (List Int)}{i:Int}(h:Qu.has rows i=true):Qu.row rows i∈rows:=by
 unfold Qu.row
 rw[List.getD_eq_getElem?_getD,List.getElem?_eq_getElem (ib h).2]
 exact List.getElem_mem _
def Qu.dp(S:aD)(rows:List (List Int))(i a:Int):Int:=
 if Qu.has rows i then(if Qu.ba S a then(if Qu.row rows i=[]then 0 else(Ob.put (Ob.put S a 2 0).2 ((Qu.row rows i).getLastD 0) 2 a).1)else 5)else 2
theorem DK:zc Tryz.prog 103=[i64 0,i64 0,i64 0,.bool false]:=by kernel_rfl
theorem AS(p hp:Nat)(S:aD)(cs:List aS)(hw:aO S cs)(rows:List (List Int))(hz:∀r∈rows,∀a∈r,a≠0)(i a:Int):
  Gl.Spec ρ Tryz.prog 131 [.pointer (some ⟨p,0,none⟩),i64 i,i64 a] [bP p hp rows,au hp S cs] R1
  fun r M=>r=Qu.dp S rows i a∧M=[bP p hp (Qu.cE S rows i a),au hp (Qu.bh S rows i a) cs]:=by
 refine Gl.Spec.of (fun Q w h=>F.queue.bp.qd.calls (some ⟨p,0,none⟩) i a h) fun R=> ?_
 unfold F.queue.bp.qd
 try simp only[aq,al]
 refine ae (oP p hp rows i) ag ?_
 rintro x' M ⟨rfl,rfl⟩
 try simp only[aq,al]
 refine aj (fun h=> ?_) (fun h=> ?_)
 ·have h':Qu.has rows i=false:=by simpa using h
  have e1:Qu.dp S rows i a=2:=by unfold Qu.dp;rw[h'];rfl
  have e2:Qu.cE S rows i a=rows:=by unfold Qu.cE;rw[h'];rfl
  have e3:Qu.bh S rows i a=S:=by unfold Qu.bh;rw[h'];rfl
  rw[e1,e2,e3]
  exact aa (x:=(2:Int)) rfl ⟨rfl,rfl⟩ ag aB
 have h':Qu.has rows i=true:=by simpa using h
 refine ah (bP.op tk fun s hs=> ?_)
 refine ai (k:= .ptr) (off:=0) (x:=some ⟨hp,0,none⟩) (by rw[af]) tk rfl ?_
 refine ae (bS hp S cs hw a) ag ?_
 rintro x' M ⟨rfl,rfl⟩
 try simp only[aq,al]
 refine ax fun b=> ?_
 rw[DK]
 refine aL (off:=0) rfl tk (by simp) (by cases Ob.head S a<;>rfl) ?_
 cases hh:Ob.head S a with
 |none=>
  refine aH rfl ?_
  have hR:Qu.ba S a=false:=by unfold Qu.ba;rw[hh]
  have e1:Qu.dp S rows i a=5:=by unfold Qu.dp;rw[h',hR];rfl
  have e2:Qu.cE S rows i a=rows:=by unfold Qu.cE;rw[h',hR];rfl
  have e3:Qu.bh S rows i a=S:=by unfold Qu.bh;rw[h',hR];rfl
  refine Tr.close ag (bP.cl (p:=p) (hp:=hp) (rows:=rows) hs) ?_
  rw[e1,e2,e3]
  exact aa (x:=(5:Int)) rfl ⟨rfl,rfl⟩ ag aB
 |some hd=>
  refine ak rfl ?_
  have e:bN [i64 0,i64 0,i64 0,.bool false] 0 [.int .i64 (Ob.fg (some hd)).1.1,.int .i64 (Ob.fg (some hd)).1.2.1,.int .i64 (Ob.fg (some hd)).1.2.2.1,.bool (Ob.fg (some hd)).1.2.2.2.1]=hd.cs:=rfl
  rw[e]
  refine ai (k:= .int .i64) (off:=0) (x:=hd.k) (by rw[af]) tk rfl ?_
  refine Tr.drop (A:=aw b hd.cs) tk ?_
  refine aj (fun h4=> ?_) (fun h4=> ?_)
  ·have hR:Qu.ba S a=false:=by unfold Qu.ba;rw[hh];simpa using h4
   have e1:Qu.dp S rows i a=5:=by unfold Qu.dp;rw[h',hR];rfl
   have e2:Qu.cE S rows i a=rows:=by unfold Qu.cE;rw[h',hR];rfl
   have e3:Qu.bh S rows i a=S:=by unfold Qu.bh;rw[h',hR];rfl
   refine Tr.close ag (bP.cl (p:=p) (hp:=hp) (rows:=rows) hs) ?_
   rw[e1,e2,e3]
   exact aa (x:=(5:Int)) rfl ⟨rfl,rfl⟩ ag aB
  have hk:hd.k=4:=by simpa using h4
  have hR:Qu.ba S a=true:=by unfold Qu.ba;rw[hh];simpa using hk
  have hn:=dm hw hh hk
  refine ah ?_
  refine ai (k:= .ptr) (off:=0) (x:=some ⟨hp,0,none⟩) (by rw[af]) tk rfl ?_
  refine ae (cM hp S cs hw a 2 0) ag ?_
  rintro x' M ⟨rfl,rfl⟩
  try simp only[aq,al]
  rw[vN hh (by omega) (by omega)]
  refine ak rfl (ah ?_)
  refine ai (k:= .slice) (off:=1) (x:=s) (by rw[af]) tk rfl ?_
  obtain⟨hi0,hi1⟩:=ib h'
  refine cn tk hi0 (by omega) fun a0 ha=> ?_
  refine cT (j:=i.toNat*2) ha tk (by rintro b o rfl;simp[af]) (mL hi1).1 ?_
  have hrow:rows.getD i.toNat []=Qu.row rows i:=rfl
  rw[hrow]
  have e2:Qu.cE S rows i a=rows.set i.toNat (Qu.row rows i++[a]):=by unfold Qu.cE;rw[h',hR];rfl
  refine aj (fun h0=> ?_) (fun h0=> ?_)
  ·have hr:Qu.row rows i=[]:=by
    have hm:=hz _ (jj h')
    cases hc:Qu.row rows i with
    |nil=>rfl
    |cons x r=>
     rw[hc]at h0 hm
     have:x=0:=by simpa using h0
     exact absurd this (hm x (.head _))
   have e1:Qu.dp S rows i a=0:=by unfold Qu.dp;rw[h',hR,if_pos rfl,if_pos rfl,if_pos hr]
   have e3:Qu.bh S rows i a=(Ob.put S a 2 0).2:=by unfold Qu.bh;rw[h',hR,Bool.and_self,if_pos rfl,if_pos hr]
   refine gu (j:=i.toNat*2) ha tk (by rintro b o rfl;simp[af]) (by rw[kC,List.length_singleton];omega) rfl ?_
   refine gu (j:=i.toNat*2+1) ha tk (by rintro b o rfl;simp[af,Nat.add_assoc]) (by rw[fO,kC,List.length_singleton];omega) rfl ?_
   have e4:bN (bN (dW rows) (i.toNat*2) [i64 a]) (i.toNat*2+1) [i64 a]=dW (rows.set i.toNat (Qu.row rows i++[a])):=by
    rw[←tJ hi1,hr];rfl
   rw[e4]
   refine Tr.close ag (bP.cl (p:=p) (hp:=hp) (rows:=rows.set i.toNat (Qu.row rows i++[a])) (by rw[List.length_set];exact hs)) ?_
   rw[e1,e2,e3]
   exact aa (x:=(0:Int)) rfl ⟨rfl,rfl⟩ ag aB
  ·have hr:Qu.row rows i≠[]:=fun e=>by rw[e]at h0;simp at h0
   have e1:Qu.dp S rows i a=(Ob.put (Ob.put S a 2 0).2 ((Qu.row rows i).getLastD 0) 2 a).1:=by unfold Qu.dp;rw[h',hR,if_pos rfl,if_pos rfl,if_neg hr]
   have e3:Qu.bh S rows i a=(Ob.put (Ob.put S a 2 0).2 ((Qu.row rows i).getLastD 0) 2 a).2:=by unfold Qu.bh;rw[h',hR,Bool.and_self,if_pos rfl,if_neg hr]
   refine cT (j:=i.toNat*2+1) ha tk (by rintro b o rfl;simp[af,Nat.add_assoc]) (mL hi1).2 ?_
   rw[hrow]
   refine gu (j:=i.toNat*2+1) ha tk (by rintro b o rfl;simp[af,Nat.add_assoc]) (by rw[kC,List.length_singleton];omega) rfl ?_
   have e4:bN (dW rows) (i.toNat*2+1) [i64 a]=dW (rows.set i.toNat (Qu.row rows i++[a])):=by
    rw[←ya hi1 (r:=Qu.row rows i++[a]) (by rw[hrow];cases hq:Qu.row rows i with |nil=>exact absurd hq hr|cons x r=>rfl)]
    simp[bN]
   rw[e4]
   refine ah ?_
   refine ai (k:= .ptr) (off:=0) (x:=some ⟨hp,0,none⟩) (by rw[af]) tk rfl ?_
   refine ae (cM hp (Ob.put S a 2 0).2 cs (hw.put a 2 0) ((Qu.row rows i).getLastD 0) 2 a) ag ?_
   rintro x' M ⟨rfl,rfl⟩
   try simp only[aq,al]
   refine Tr.close ag (bP.cl (p:=p) (hp:=hp) (rows:=rows.set i.toNat (Qu.row rows i++[a])) (by rw[List.length_set];exact hs)) ?_
   rw[e1,e2,e3]
   exact aa (x:=(Ob.put (Ob.put S a 2 0).2 ((Qu.row rows i).getLastD 0) 2 a).1) rfl ⟨rfl,rfl⟩ ag aB
theorem Qu.Lk.get{S:aD}:∀{r pre:List Int} {a:Int},Qu.Lk S (pre++a::r)→a≠0∧Ob.get S a 2=(r.headD 0,0)
 |r,[],a,h=>⟨h.1,h.2.1⟩
 |r,x::pre,a,h=>Qu.Lk.get (pre:=pre) h.2.2
theorem Qu.Lk.ne{S:aD}:∀{r:List Int},Qu.Lk S r→∀a∈r,a≠0
 |[],_,a,h=>by cases h
 |x::r,H,a,h=>by
  rcases List.mem_cons.mp h with rfl|h
  ·exact H.1
  ·exact Qu.Lk.ne H.2.2 a h
theorem tc(p hp:Nat)(S:aD)(cs:List aS)(hw:aO S cs)(rows:List (List Int))(hk:∀r∈rows,Qu.Lk S r)(i:Int):
  Gl.Spec ρ Tryz.prog 95 [.pointer (some ⟨p,0,none⟩),i64 i] [bP p hp rows,au hp S cs] P2
  fun r M=>r=((Qu.hU rows i).1,(Qu.hU rows i).2,())∧M=[bP p hp (Qu.dP rows i),au hp (Qu.cp S rows i) cs]:=by
 refine Gl.Spec.of (fun Q w h=>F.queue.bp.Poll.calls (some ⟨p,0,none⟩) i h) fun R=> ?_
 unfold F.queue.bp.Poll
 try simp only[aq,al]
 refine ae (oP p hp rows i) ag ?_
 rintro x' M ⟨rfl,rfl⟩
 try simp only[aq,al]
 refine aj (fun h=> ?_) (fun h=> ?_)
 ·have h':Qu.has rows i=false:=by simpa using h
  have e1:Qu.hU rows i=(0,2):=by unfold Qu.hU;rw[h'];rfl
  have e2:Qu.dP rows i=rows:=by unfold Qu.dP;rw[h'];rfl
  have e3:Qu.cp S rows i=S:=by unfold Qu.cp;rw[h'];rfl
  rw[e1,e2,e3]
  exact aa (x:=((0:Int),(2:Int),())) rfl ⟨rfl,rfl⟩ ag aB
 have h':Qu.has rows i=true:=by simpa using h
 obtain⟨hi0,hi1⟩:=ib h'
 have hrow:rows.getD i.toNat []=Qu.row rows i:=rfl
 have e1:Qu.hU rows i=((Qu.row rows i).headD 0,0):=by unfold Qu.hU;rw[h'];rfl
 have e2:Qu.dP rows i=rows.set i.toNat (Qu.row rows i).tail:=by unfold Qu.dP;rw[h'];rfl
 refine ah (bP.op tk fun s hs=> ?_)
 refine ai (k:= .slice) (off:=1) (x:=s) (by rw[af]) tk rfl ?_
 refine cn tk hi0 (by omega) fun a0 ha=> ?_
 refine cT (j:=i.toNat*2) ha tk (by rintro b o rfl;simp[af]) (mL hi1).1 ?_
 rw[hrow]
 have hl:=hk _ (jj h')
 cases hr:Qu.row rows i with
 |nil=>
  refine aH rfl ?_
  have e3:Qu.cp S rows i=S:=by unfold Qu.cp;rw[if_neg fun g=>g.2 hr]
  have e4:rows.set i.toNat (Qu.row rows i).tail=rows:=by
   rw[hr]
   apply List.ext_getElem?
   intro j
   rw[List.getElem?_set]
   split
   ·rename_i e
    subst e
    unfold Qu.row at hr
    rw[List.getD_eq_getElem?_getD,List.getElem?_eq_getElem hi1]at hr
    rw[List.getElem?_eq_getElem hi1,show rows[i.toNat]=[]from hr]
    first |rfl|(rw[if_pos hi1];rfl)
   ·rfl
  refine Tr.close ag (bP.cl (p:=p) (hp:=hp) (rows:=rows) hs) ?_
  rw[e1,e2,e3,e4,hr]
  exact aa (x:=((0:Int),(0:Int),())) rfl ⟨rfl,rfl⟩ ag aB
 |cons x r=>
  rw[hr]at hl
  obtain⟨hx,hg⟩:=Qu.Lk.get (pre:=[]) hl
  refine ak (by simpa using hx) (ah ?_)
  refine ai (k:= .ptr) (off:=0) (x:=some ⟨hp,0,none⟩) (by rw[af]) tk rfl ?_
  refine ae (dg hp S cs hw x 2) ag ?_
  rintro x' M ⟨rfl,rfl⟩
  try simp only[aq,al]
  rw[hg]
  refine ak rfl ?_
  refine gu (j:=i.toNat*2) ha tk (by rintro b o rfl;simp[af]) (by rw[kC,List.length_singleton];omega) rfl ?_
  have hpx:(Ob.put S x 2 0).1=0:=vn (by rw[hg])
  have e3:Qu.cp S rows i=(Ob.put S x 2 0).2:=by unfold Qu.cp;rw[if_pos ⟨h',by rw[hr];exact List.cons_ne_nil _ _⟩,hr];rfl
  refine aj (fun h0=> ?_) (fun h0=> ?_)
  ·have hr0:r=[]:=by
    cases r with
    |nil=>rfl
    |cons y r=>
     have:y=0:=by simpa using h0
     exact absurd this (Qu.Lk.ne hl y (by simp))
   subst hr0
   refine gu (j:=i.toNat*2+1) ha tk (by rintro b o rfl;simp[af,Nat.add_assoc]) (by rw[fO,kC,List.length_singleton];omega) rfl ?_
   have e4:bN (bN (dW rows) (i.toNat*2) [i64 (List.headD [] 0)]) (i.toNat*2+1) [i64 0]=dW (rows.set i.toNat (Qu.row rows i).tail):=by
    rw[←tJ hi1,hr];rfl
   rw[e4]
   refine ah ?_
   refine ai (k:= .ptr) (off:=0) (x:=some ⟨hp,0,none⟩) (by rw[af]) tk rfl ?_
   refine ae (cM hp S cs hw x 2 0) ag ?_
   rintro x' M ⟨rfl,rfl⟩
   try simp only[aq,al]
   refine Tr.close ag (bP.cl (p:=p) (hp:=hp) (rows:=rows.set i.toNat (Qu.row rows i).tail) (by rw[List.length_set];exact hs)) ?_
   rw[e1,e2,e3,hpx,hr]
   exact aa (x:=(x,(0:Int),())) rfl ⟨rfl,rfl⟩ ag aB
  ·have hr0:r≠[]:=fun e=>by rw[e]at h0;simp at h0
   have e4:bN (dW rows) (i.toNat*2) [i64 (r.headD 0)]=dW (rows.set i.toNat (Qu.row rows i).tail):=by
    rw[hr]
    show _=dW (rows.set i.toNat r)
    rw[←uV hi1 (r:=r) (by rw[hrow,hr];cases r with |nil=>exact absurd rfl hr0|cons y r=>rfl)]
    simp[bN]
   rw[e4]
   refine ah ?_
   refine ai (k:= .ptr) (off:=0) (x:=some ⟨hp,0,none⟩) (by rw[af]) tk rfl ?_
   refine ae (cM hp S cs hw x 2 0) ag ?_
   rintro x' M ⟨rfl,rfl⟩
   try simp only[aq,al]
   refine Tr.close ag (bP.cl (p:=p) (hp:=hp) (rows:=rows.set i.toNat (Qu.row rows i).tail) (by rw[List.length_set];exact hs)) ?_
   rw[e1,e2,e3,hpx,hr]
   exact aa (x:=(x,(0:Int),())) rfl ⟨rfl,rfl⟩ ag aB
abbrev SE:RK:= .many [.l .slice,.l (.int .i64)]
theorem ui(p hp:Nat)(S:aD)(cs:List aS)(hw:aO S cs)(rows:List (List Int))(i:Int)(h':Qu.has rows i=true)(hk:Qu.Lk S (Qu.row rows i))(hn:(Qu.row rows i).length≤2^30):
  Gl.Spec ρ Tryz.prog 66 [.pointer (some ⟨p,0,none⟩),i64 i] [bP p hp rows,au hp S cs] SE
  fun r M=>(∃s:ay,r=(s,0,())∧s.n=(Qu.row rows i).length∧M=[aE s 1 ((Qu.row rows i).map i64),bP p hp rows,au hp S cs]):=by
 refine Gl.Spec.of (fun Q w h=>F.queue.bp.List.calls (some ⟨p,0,none⟩) i h) fun R=> ?_
 unfold F.queue.bp.List
 try simp only[aq,al]
 refine ae (oP p hp rows i) ag ?_
 rintro x' M ⟨rfl,rfl⟩
 try simp only[aq,al]
 refine ak (by rw[h'];rfl) ?_
 obtain⟨hi0,hi1⟩:=ib h'
 have hrow:rows.getD i.toNat []=Qu.row rows i:=rfl
 refine ah (bP.op tk fun s hs=> ?_)
 refine ai (k:= .slice) (off:=1) (x:=s) (by rw[af]) tk rfl ?_
 refine cn tk hi0 (by omega) fun a0 ha=> ?_
 refine cT (j:=i.toNat*2) ha tk (by rintro b o rfl;simp[af]) (mL hi1).1 ?_
 rw[hrow]
 refine Tr.close ag (bP.cl (p:=p) (hp:=hp) (rows:=rows) hs) ?_
 refine Tr.cq 1 ?_
 generalize hq:Qu.row rows i=q at*
 refine aP (I:=fun n st M=>∃(pre r:List Int) (t:ay),q=pre++r∧n=r.length∧st=(t,r.headD 0,())∧t.n=pre.length∧M=aE t 1 (pre.map i64)::bP p hp rows::au hp S cs::R) q.length ⟨[],q,_,rfl,rfl,rfl,rfl,rfl⟩ ?_
 rintro n _ _ ⟨pre,r,t,he,rfl,rfl,ht,rfl⟩ X hX
 try simp only[aq,al]
 have hql:pre.length+r.length=q.length:=by rw[he,List.length_append]
 cases r with
 |nil=>
  refine ak rfl ?_
  rw[List.append_nil]at he
  subst he
  exact aa (x:=(t,(0:Int),())) rfl ⟨t,rfl,ht,rfl⟩ ag aB
 |cons a r=>
  rw[he]at hk
  obtain⟨h0,hg⟩:=Qu.Lk.get hk
  rw[List.length_cons]at hql
  refine aH (by simpa using h0) (ax fun b=> ?_)
  refine df (s:=t) (x:=⟨some ⟨b,0,none⟩,1,1⟩) (ys:=[i64 a]) ca tk (Rd.cl tk rfl rfl) rfl (by rw[ht];dsimp only;omega) (by rw[ht];dsimp only;omega) fun r2 hr2=> ?_
  refine Tr.drop (A:=aw b [i64 a]) tk ?_
  refine ah (bP.op tk fun s hs=> ?_)
  refine ai (k:= .ptr) (off:=0) (x:=some ⟨hp,0,none⟩) (by rw[af]) tk rfl ?_
  refine Tr.close ag (bP.cl (p:=p) (hp:=hp) (rows:=rows) hs) ?_
  refine ae (dg hp S cs hw a 2) ag ?_
  rintro x' M ⟨rfl,rfl⟩
  try simp only[aq,al]
  rw[hg]
  refine ak rfl ?_
  have e:pre.map i64++[i64 a]=(pre++[a]).map i64:=by rw[List.map_append];rfl
  rw[e]
  refine Tr.perm (aI.perm (M:=[aE r2 1 ((pre++[a]).map i64),bP p hp rows,au hp S cs]) ag) (hX r.length _ _ (by rw[List.length_cons];omega) ⟨pre++[a],r,r2,by rw[he,List.append_assoc];rfl,rfl,rfl,by rw[hr2,ht,List.length_append];rfl,rfl⟩)
end Go.Proofs.YtfepdmpplahloaaGreat
