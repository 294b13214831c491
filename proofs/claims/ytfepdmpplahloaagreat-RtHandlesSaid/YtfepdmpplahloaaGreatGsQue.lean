/- Queues. -/
import Derived.Test.YtfepdmpplahloaaGreatGsHan
set_option linter.unusedSimpArgs false
set_option linter.unusedVariables false
namespace Go.Proofs.YtfepdmpplahloaaGreat
open Go Go.Gl
variable{ρ0 ρ:FR}{L L':List Asn}{Post:Value→List Asn→Prop}{T:Tree}
abbrev endC(rows:List (List Int)):List Value:=hcells (rows.map Qu.ends)
theorem at_ends(rows:List (List Int))(i:Nat):Hn.at' (rows.map Qu.ends) i=Qu.ends (rows.getD i []):=by
 unfold Hn.at'
 rw[List.getD_eq_getElem?_getD,List.getD_eq_getElem?_getD,List.getElem?_map]
 cases rows[i]? <;>rfl
theorem endC_len(rows:List (List Int)):(endC rows).length=2*rows.length:=by rw[hc_len,List.length_map]
theorem endC_get{rows:List (List Int)}{i:Nat}(h:i<rows.length):(endC rows)[i*2]? =some (i64 ((rows.getD i []).headD 0))∧(endC rows)[i*2+1]? =some (i64 ((rows.getD i []).getLastD 0)):=by
 have:=hc_get (hs:=rows.map Qu.ends) (i:=i) (by rw[List.length_map];exact h)
 rw[at_ends]at this
 exact this
theorem endC_set{rows:List (List Int)}{i:Nat}{r:List Int}(h:i<rows.length):((endC rows).set (i*2) (i64 (r.headD 0))).set (i*2+1) (i64 (r.getLastD 0))=endC (rows.set i r):=by
 have hl:i<(rows.map Qu.ends).length:=by rw[List.length_map];exact h
 rw[(hc_set (x:=r.headD 0) hl).1,(hc_set (by rw[List.length_set];exact hl)).2,Hn.at_set hl,if_pos rfl,List.set_set]
 unfold endC
 rw[List.map_set];rfl
theorem endC_last{rows:List (List Int)}{i:Nat}{r:List Int}(h:i<rows.length)(he:r.headD 0=(rows.getD i []).headD 0):(endC rows).set (i*2+1) (i64 (r.getLastD 0))=endC (rows.set i r):=by
 have hl:i<(rows.map Qu.ends).length:=by rw[List.length_map];exact h
 rw[(hc_set (x:=r.getLastD 0) hl).2,at_ends]
 unfold endC
 rw[List.map_set]
 have:Qu.ends r=((Qu.ends (rows.getD i [])).1,r.getLastD 0):=by unfold Qu.ends;rw[he]
 rw[this]
theorem endC_first{rows:List (List Int)}{i:Nat}{r:List Int}(h:i<rows.length)(he:r.getLastD 0=(rows.getD i []).getLastD 0):(endC rows).set (i*2) (i64 (r.headD 0))=endC (rows.set i r):=by
 have hl:i<(rows.map Qu.ends).length:=by rw[List.length_map];exact h
 rw[(hc_set (x:=r.headD 0) hl).1,at_ends]
 unfold endC
 rw[List.map_set]
 have:Qu.ends r=(r.headD 0,(Qu.ends (rows.getD i [])).2):=by unfold Qu.ends;rw[he]
 rw[this]
def QueA(p hp:Nat)(rows:List (List Int)):Asn:=fun h=>∃s:Slc,s.n=rows.length∧star [blk p [.pointer (some ⟨hp,0,none⟩),.slice s.a s.n s.c],SLc s 2 (endC rows)] h
theorem QueA.op{p hp:Nat}{rows:List (List Int)}(t:Take L (QueA p hp rows) L')(h:∀s:Slc,s.n=rows.length→Tr ρ0 ρ (blk p [.pointer (some ⟨hp,0,none⟩),.slice s.a s.n s.c]::SLc s 2 (endC rows)::L') T Post):Tr ρ0 ρ L T Post:=
 Tr.openL (M:=fun s:Slc=>[blk p [.pointer (some ⟨hp,0,none⟩),.slice s.a s.n s.c],SLc s 2 (endC rows)]) t (fun _ h=>h) h
theorem QueA.cl{p hp:Nat}{rows:List (List Int)}{s:Slc}(hs:s.n=rows.length)(h:HP)(H:star [blk p [.pointer (some ⟨hp,0,none⟩),.slice s.a s.n s.c],SLc s 2 (endC rows)] h):QueA p hp rows h:=⟨s,hs,H⟩
theorem que_new(hp:Nat):Gl.Spec ρ Tryz.prog 73 [.pointer (some ⟨hp,0,none⟩)] [] (.one (.l .ptr)) fun r M=>∃p,r=some ⟨p,0,none⟩∧M=[QueA p hp []]:=by
 refine Gl.Spec.of (fun Q w h=>F.queue.New.calls (some ⟨hp,0,none⟩) h) fun R=> ?_
 unfold F.queue.New
 try simp only[lca,lna]
 refine en_brf rfl (en_nw fun b=> ?_)
 refine Tr.nilSL 2 ?_
 refine Tr.close (M:=[blk b [.pointer (some ⟨hp,0,none⟩),.slice none 0 0],SLc ⟨none,0,0⟩ 2 []]) tks (QueA.cl (p:=b) (hp:=hp) (rows:=[]) (s:=⟨none,0,0⟩) rfl) ?_
 exact en_rets (x:=some ⟨b,0,none⟩) rfl ⟨b,rfl,rfl⟩ tks ens
theorem que_count(p hp:Nat)(rows:List (List Int)):Gl.Spec ρ Tryz.prog 65 [.pointer (some ⟨p,0,none⟩)] [QueA p hp rows] R1 fun r M=>r=(rows.length:Nat)∧M=[QueA p hp rows]:=by
 refine Gl.Spec.of (fun Q w h=>F.queue.Queues.Queues.calls (some ⟨p,0,none⟩) h) fun R=> ?_
 unfold F.queue.Queues.Queues
 try simp only[lca,lna]
 refine en_brf rfl (en_nn (QueA.op tk fun s hs=> ?_))
 refine en_ld (k:= .slice) (off:=1) (x:=s) (by rw[fa_mk]) tk rfl ?_
 refine Tr.close tks (QueA.cl (p:=p) (hp:=hp) (rows:=rows) hs) ?_
 rw[hs]
 exact en_rets (x:=((rows.length:Nat):Int)) rfl ⟨rfl,rfl⟩ tks ens
theorem que_has(p hp:Nat)(rows:List (List Int))(i:Int):Gl.Spec ρ Tryz.prog 107 [.pointer (some ⟨p,0,none⟩),i64 i] [QueA p hp rows] RB fun r M=>r=Qu.has rows i∧M=[QueA p hp rows]:=by
 refine Gl.Spec.of (fun Q w h=>F.queue.Queues.has.calls (some ⟨p,0,none⟩) i h) fun R=> ?_
 unfold F.queue.Queues.has
 try simp only[lca,lna]
 refine en_br (fun h=> ?_) (fun h=> ?_)
 ·have h':i≥0:=of_decide_eq_true h
  refine en_call (que_count p hp rows) tks ?_
  rintro x' M ⟨rfl,rfl⟩
  try simp only[lca,lna]
  refine en_rets (x:=Qu.has rows i) ?_ ⟨rfl,rfl⟩ tks ens
  have:Qu.has rows i=decide (i<(rows.length:Nat)):=by unfold Qu.has;rw[decide_eq_decide];omega
  rw[this];rfl
 ·have h':¬i≥0:=of_decide_eq_false h
  refine en_rets (x:=Qu.has rows i) ?_ ⟨rfl,rfl⟩ tks ens
  have:Qu.has rows i=false:=by unfold Qu.has;rw[decide_eq_false_iff_not];omega
  rw[this];rfl
theorem appEnds:appB Tryz.prog #[96,96] 2 16=true:=by kernel_rfl
theorem que_open(p hp:Nat)(rows:List (List Int))(hr:rows.length≤8):Gl.Spec ρ Tryz.prog 94 [.pointer (some ⟨p,0,none⟩)] [QueA p hp rows] P2
  fun r M=>r=(if rows.length=8 then((0:Int),(3:Int),())else(((rows.length:Nat):Int),(0:Int),()))∧M=[QueA p hp (if rows.length=8 then rows else rows++[[]])]:=by
 refine Gl.Spec.of (fun Q w h=>F.queue.Queues.Open.calls (some ⟨p,0,none⟩) h) fun R=> ?_
 unfold F.queue.Queues.Open
 try simp only[lca,lna]
 refine en_brf rfl (en_nn (QueA.op tk fun s hs=> ?_))
 refine en_ld (k:= .slice) (off:=1) (x:=s) (by rw[fa_mk]) tk rfl ?_
 refine en_br (fun h=> ?_) (fun h=> ?_)
 ·have h':((s.n:Nat):Int)≥8:=of_decide_eq_true h
  have h8:rows.length=8:=by omega
  refine Tr.close tks (QueA.cl (p:=p) (hp:=hp) (rows:=rows) hs) ?_
  rw[if_pos h8,if_pos h8]
  exact en_rets (x:=((0:Int),(3:Int),())) rfl ⟨rfl,rfl⟩ tks ens
 ·have h':¬((s.n:Nat):Int)≥8:=of_decide_eq_false h
  have h8:rows.length≠8:=by omega
  rw[if_neg h8,if_neg h8]
  refine en_nn ?_
  refine en_ld (k:= .slice) (off:=1) (x:=s) (by rw[fa_mk]) tk rfl ?_
  refine en_nw fun b=> ?_
  refine en_app (s:=s) (x:=⟨some ⟨b,0,none⟩,1,1⟩) (ys:=[i64 0,i64 0]) appEnds tk (Rd.cl tk rfl rfl) rfl (by dsimp only;omega) (by dsimp only;omega) fun r hr=> ?_
  refine Tr.drop (A:=blk b [i64 0,i64 0]) tk ?_
  refine en_nn ?_
  refine en_st (off:=1) (by rw[fa_mk]) tk (by simp) rfl ?_
  refine en_nn ?_
  have e:setL [.pointer (some ⟨hp,0,none⟩),.slice s.a s.n s.c] 1 [.slice r.a r.n r.c]=[.pointer (some ⟨hp,0,none⟩),.slice r.a r.n r.c]:=rfl
  rw[e]
  refine en_ld (k:= .slice) (off:=1) (x:=r) (by rw[fa_mk]) tk rfl ?_
  have hrn:r.n=(rows++[[]]).length:=by rw[hr,hs,List.length_append];rfl
  have e2:endC rows++[i64 0,i64 0]=endC (rows++[[]]):=by unfold endC hcells;rw[List.map_append,List.flatMap_append];rfl
  rw[e2]
  refine Tr.close tks (QueA.cl (p:=p) (hp:=hp) (rows:=rows++[[]]) hrn) ?_
  have hw:IntKind.wrap .i64 ((r.n:Nat)-1)=(rows.length:Nat):=by
   rw[List.length_append,List.length_singleton]at hrn
   rw[wrap64 (by omega) (by omega)];omega
  rw[hw]
  exact en_rets (x:=(((rows.length:Nat):Int),(0:Int),())) rfl ⟨rfl,rfl⟩ tks ens
theorem isR_head{S:Spc}{a:Int}(h:Qu.isR S a=true):∃hd,Ob.head S a=some hd∧hd.k=4:=by
 unfold Qu.isR at h
 split at h
 ·rename_i hd hh;exact⟨hd,hh,by simpa using h⟩
 ·cases h
theorem isR_n{S:Spc}{cs:List Cls}(hw:HWf S cs){a:Int}{hd:Hd}(hh:Ob.head S a=some hd)(hk:hd.k=4):hd.n=5:=by
 have:=Ob.head_cls hw hh
 unfold Sp.mayH at this
 simp[hk]at this
 omega
theorem put_in{S:Spc}{a i x:Int}{h:Hd}(hh:Ob.head S a=some h)(h0:0≤i)(h1:i<h.n):(Ob.put S a i x).1=0:=by
 have e:Ob.fieldAt S a i=(a+1+i,0):=by
  unfold Ob.fieldAt
  rw[hh]
  exact if_neg (by omega)
 unfold Ob.put
 rw[e];rfl
theorem put_of_get{S:Spc}{a i x:Int}(h:(Ob.get S a i).2=0):(Ob.put S a i x).1=0:=by
 unfold Ob.get at h
 unfold Ob.put
 by_cases g:(Ob.fieldAt S a i).2=0
 ·rw[if_neg (fun h=>h g)]
 ·rw[if_pos g]at h;exact absurd h g
theorem row_has{rows:List (List Int)}{i:Int}(h:Qu.has rows i=true):0≤i∧i.toNat<rows.length:=by
 unfold Qu.has at h
 have:=of_decide_eq_true h
 omega
theorem row_mem{rows:List (List Int)}{i:Int}(h:Qu.has rows i=true):Qu.row rows i∈rows:=by
 unfold Qu.row
 rw[List.getD_eq_getElem?_getD,List.getElem?_eq_getElem (row_has h).2]
 exact List.getElem_mem _
def Qu.pushR(S:Spc)(rows:List (List Int))(i a:Int):Int:=
 if Qu.has rows i then(if Qu.isR S a then(if Qu.row rows i=[]then 0 else(Ob.put (Ob.put S a 2 0).2 ((Qu.row rows i).getLastD 0) 2 a).1)else 5)else 2
theorem zcHd:zc Tryz.prog 103=[i64 0,i64 0,i64 0,.bool false]:=by kernel_rfl
theorem que_push(p hp:Nat)(S:Spc)(cs:List Cls)(hw:HWf S cs)(rows:List (List Int))(hz:∀r∈rows,∀a∈r,a≠0)(i a:Int):
  Gl.Spec ρ Tryz.prog 131 [.pointer (some ⟨p,0,none⟩),i64 i,i64 a] [QueA p hp rows,HeapA hp S cs] R1
  fun r M=>r=Qu.pushR S rows i a∧M=[QueA p hp (Qu.pushQ S rows i a),HeapA hp (Qu.pushS S rows i a) cs]:=by
 refine Gl.Spec.of (fun Q w h=>F.queue.Queues.Push.calls (some ⟨p,0,none⟩) i a h) fun R=> ?_
 unfold F.queue.Queues.Push
 try simp only[lca,lna]
 refine en_call (que_has p hp rows i) tks ?_
 rintro x' M ⟨rfl,rfl⟩
 try simp only[lca,lna]
 refine en_br (fun h=> ?_) (fun h=> ?_)
 ·have h':Qu.has rows i=false:=by simpa using h
  have e1:Qu.pushR S rows i a=2:=by unfold Qu.pushR;rw[h'];rfl
  have e2:Qu.pushQ S rows i a=rows:=by unfold Qu.pushQ;rw[h'];rfl
  have e3:Qu.pushS S rows i a=S:=by unfold Qu.pushS;rw[h'];rfl
  rw[e1,e2,e3]
  exact en_rets (x:=(2:Int)) rfl ⟨rfl,rfl⟩ tks ens
 have h':Qu.has rows i=true:=by simpa using h
 refine en_nn (QueA.op tk fun s hs=> ?_)
 refine en_ld (k:= .ptr) (off:=0) (x:=some ⟨hp,0,none⟩) (by rw[fa_mk]) tk rfl ?_
 refine en_call (object_head hp S cs hw a) tks ?_
 rintro x' M ⟨rfl,rfl⟩
 try simp only[lca,lna]
 refine en_nw fun b=> ?_
 rw[zcHd]
 refine en_st (off:=0) rfl tk (by simp) (by cases Ob.head S a<;>rfl) ?_
 cases hh:Ob.head S a with
 |none=>
  refine en_brt rfl ?_
  have hR:Qu.isR S a=false:=by unfold Qu.isR;rw[hh]
  have e1:Qu.pushR S rows i a=5:=by unfold Qu.pushR;rw[h',hR];rfl
  have e2:Qu.pushQ S rows i a=rows:=by unfold Qu.pushQ;rw[h',hR];rfl
  have e3:Qu.pushS S rows i a=S:=by unfold Qu.pushS;rw[h',hR];rfl
  refine Tr.close tks (QueA.cl (p:=p) (hp:=hp) (rows:=rows) hs) ?_
  rw[e1,e2,e3]
  exact en_rets (x:=(5:Int)) rfl ⟨rfl,rfl⟩ tks ens
 |some hd=>
  refine en_brf rfl ?_
  have e:setL [i64 0,i64 0,i64 0,.bool false] 0 [.int .i64 (Ob.headR (some hd)).1.1,.int .i64 (Ob.headR (some hd)).1.2.1,.int .i64 (Ob.headR (some hd)).1.2.2.1,.bool (Ob.headR (some hd)).1.2.2.2.1]=hd.cs:=rfl
  rw[e]
  refine en_ld (k:= .int .i64) (off:=0) (x:=hd.k) (by rw[fa_mk]) tk rfl ?_
  refine Tr.drop (A:=blk b hd.cs) tk ?_
  refine en_br (fun h4=> ?_) (fun h4=> ?_)
  ·have hR:Qu.isR S a=false:=by unfold Qu.isR;rw[hh];simpa using h4
   have e1:Qu.pushR S rows i a=5:=by unfold Qu.pushR;rw[h',hR];rfl
   have e2:Qu.pushQ S rows i a=rows:=by unfold Qu.pushQ;rw[h',hR];rfl
   have e3:Qu.pushS S rows i a=S:=by unfold Qu.pushS;rw[h',hR];rfl
   refine Tr.close tks (QueA.cl (p:=p) (hp:=hp) (rows:=rows) hs) ?_
   rw[e1,e2,e3]
   exact en_rets (x:=(5:Int)) rfl ⟨rfl,rfl⟩ tks ens
  have hk:hd.k=4:=by simpa using h4
  have hR:Qu.isR S a=true:=by unfold Qu.isR;rw[hh];simpa using hk
  have hn:=isR_n hw hh hk
  refine en_nn ?_
  refine en_ld (k:= .ptr) (off:=0) (x:=some ⟨hp,0,none⟩) (by rw[fa_mk]) tk rfl ?_
  refine en_call (object_put hp S cs hw a 2 0) tks ?_
  rintro x' M ⟨rfl,rfl⟩
  try simp only[lca,lna]
  rw[put_in hh (by omega) (by omega)]
  refine en_brf rfl (en_nn ?_)
  refine en_ld (k:= .slice) (off:=1) (x:=s) (by rw[fa_mk]) tk rfl ?_
  obtain⟨hi0,hi1⟩:=row_has h'
  refine en_ixSL tk hi0 (by omega) fun a0 ha=> ?_
  refine en_ldSL (j:=i.toNat*2) ha tk (by rintro b o rfl;simp[fa_mk]) (endC_get hi1).1 ?_
  have hrow:rows.getD i.toNat []=Qu.row rows i:=rfl
  rw[hrow]
  have e2:Qu.pushQ S rows i a=rows.set i.toNat (Qu.row rows i++[a]):=by unfold Qu.pushQ;rw[h',hR];rfl
  refine en_br (fun h0=> ?_) (fun h0=> ?_)
  ·have hr:Qu.row rows i=[]:=by
    have hm:=hz _ (row_mem h')
    cases hc:Qu.row rows i with
    |nil=>rfl
    |cons x r=>
     rw[hc]at h0 hm
     have:x=0:=by simpa using h0
     exact absurd this (hm x (.head _))
   have e1:Qu.pushR S rows i a=0:=by unfold Qu.pushR;rw[h',hR,if_pos rfl,if_pos rfl,if_pos hr]
   have e3:Qu.pushS S rows i a=(Ob.put S a 2 0).2:=by unfold Qu.pushS;rw[h',hR,Bool.and_self,if_pos rfl,if_pos hr]
   refine en_stSL (j:=i.toNat*2) ha tk (by rintro b o rfl;simp[fa_mk]) (by rw[endC_len,List.length_singleton];omega) rfl ?_
   refine en_stSL (j:=i.toNat*2+1) ha tk (by rintro b o rfl;simp[fa_mk,Nat.add_assoc]) (by rw[setL_length,endC_len,List.length_singleton];omega) rfl ?_
   have e4:setL (setL (endC rows) (i.toNat*2) [i64 a]) (i.toNat*2+1) [i64 a]=endC (rows.set i.toNat (Qu.row rows i++[a])):=by
    rw[←endC_set hi1,hr];rfl
   rw[e4]
   refine Tr.close tks (QueA.cl (p:=p) (hp:=hp) (rows:=rows.set i.toNat (Qu.row rows i++[a])) (by rw[List.length_set];exact hs)) ?_
   rw[e1,e2,e3]
   exact en_rets (x:=(0:Int)) rfl ⟨rfl,rfl⟩ tks ens
  ·have hr:Qu.row rows i≠[]:=fun e=>by rw[e]at h0;simp at h0
   have e1:Qu.pushR S rows i a=(Ob.put (Ob.put S a 2 0).2 ((Qu.row rows i).getLastD 0) 2 a).1:=by unfold Qu.pushR;rw[h',hR,if_pos rfl,if_pos rfl,if_neg hr]
   have e3:Qu.pushS S rows i a=(Ob.put (Ob.put S a 2 0).2 ((Qu.row rows i).getLastD 0) 2 a).2:=by unfold Qu.pushS;rw[h',hR,Bool.and_self,if_pos rfl,if_neg hr]
   refine en_ldSL (j:=i.toNat*2+1) ha tk (by rintro b o rfl;simp[fa_mk,Nat.add_assoc]) (endC_get hi1).2 ?_
   rw[hrow]
   refine en_stSL (j:=i.toNat*2+1) ha tk (by rintro b o rfl;simp[fa_mk,Nat.add_assoc]) (by rw[endC_len,List.length_singleton];omega) rfl ?_
   have e4:setL (endC rows) (i.toNat*2+1) [i64 a]=endC (rows.set i.toNat (Qu.row rows i++[a])):=by
    rw[←endC_last hi1 (r:=Qu.row rows i++[a]) (by rw[hrow];cases hq:Qu.row rows i with |nil=>exact absurd hq hr|cons x r=>rfl)]
    simp[setL]
   rw[e4]
   refine en_nn ?_
   refine en_ld (k:= .ptr) (off:=0) (x:=some ⟨hp,0,none⟩) (by rw[fa_mk]) tk rfl ?_
   refine en_call (object_put hp (Ob.put S a 2 0).2 cs (hw.put a 2 0) ((Qu.row rows i).getLastD 0) 2 a) tks ?_
   rintro x' M ⟨rfl,rfl⟩
   try simp only[lca,lna]
   refine Tr.close tks (QueA.cl (p:=p) (hp:=hp) (rows:=rows.set i.toNat (Qu.row rows i++[a])) (by rw[List.length_set];exact hs)) ?_
   rw[e1,e2,e3]
   exact en_rets (x:=(Ob.put (Ob.put S a 2 0).2 ((Qu.row rows i).getLastD 0) 2 a).1) rfl ⟨rfl,rfl⟩ tks ens
theorem Qu.Lk.get{S:Spc}:∀{r pre:List Int} {a:Int},Qu.Lk S (pre++a::r)→a≠0∧Ob.get S a 2=(r.headD 0,0)
 |r,[],a,h=>⟨h.1,h.2.1⟩
 |r,x::pre,a,h=>Qu.Lk.get (pre:=pre) h.2.2
theorem Qu.Lk.ne{S:Spc}:∀{r:List Int},Qu.Lk S r→∀a∈r,a≠0
 |[],_,a,h=>by cases h
 |x::r,H,a,h=>by
  rcases List.mem_cons.mp h with rfl|h
  ·exact H.1
  ·exact Qu.Lk.ne H.2.2 a h
theorem que_poll(p hp:Nat)(S:Spc)(cs:List Cls)(hw:HWf S cs)(rows:List (List Int))(hk:∀r∈rows,Qu.Lk S r)(i:Int):
  Gl.Spec ρ Tryz.prog 95 [.pointer (some ⟨p,0,none⟩),i64 i] [QueA p hp rows,HeapA hp S cs] P2
  fun r M=>r=((Qu.pollR rows i).1,(Qu.pollR rows i).2,())∧M=[QueA p hp (Qu.pollQ rows i),HeapA hp (Qu.pollS S rows i) cs]:=by
 refine Gl.Spec.of (fun Q w h=>F.queue.Queues.Poll.calls (some ⟨p,0,none⟩) i h) fun R=> ?_
 unfold F.queue.Queues.Poll
 try simp only[lca,lna]
 refine en_call (que_has p hp rows i) tks ?_
 rintro x' M ⟨rfl,rfl⟩
 try simp only[lca,lna]
 refine en_br (fun h=> ?_) (fun h=> ?_)
 ·have h':Qu.has rows i=false:=by simpa using h
  have e1:Qu.pollR rows i=(0,2):=by unfold Qu.pollR;rw[h'];rfl
  have e2:Qu.pollQ rows i=rows:=by unfold Qu.pollQ;rw[h'];rfl
  have e3:Qu.pollS S rows i=S:=by unfold Qu.pollS;rw[h'];rfl
  rw[e1,e2,e3]
  exact en_rets (x:=((0:Int),(2:Int),())) rfl ⟨rfl,rfl⟩ tks ens
 have h':Qu.has rows i=true:=by simpa using h
 obtain⟨hi0,hi1⟩:=row_has h'
 have hrow:rows.getD i.toNat []=Qu.row rows i:=rfl
 have e1:Qu.pollR rows i=((Qu.row rows i).headD 0,0):=by unfold Qu.pollR;rw[h'];rfl
 have e2:Qu.pollQ rows i=rows.set i.toNat (Qu.row rows i).tail:=by unfold Qu.pollQ;rw[h'];rfl
 refine en_nn (QueA.op tk fun s hs=> ?_)
 refine en_ld (k:= .slice) (off:=1) (x:=s) (by rw[fa_mk]) tk rfl ?_
 refine en_ixSL tk hi0 (by omega) fun a0 ha=> ?_
 refine en_ldSL (j:=i.toNat*2) ha tk (by rintro b o rfl;simp[fa_mk]) (endC_get hi1).1 ?_
 rw[hrow]
 have hl:=hk _ (row_mem h')
 cases hr:Qu.row rows i with
 |nil=>
  refine en_brt rfl ?_
  have e3:Qu.pollS S rows i=S:=by unfold Qu.pollS;rw[if_neg fun g=>g.2 hr]
  have e4:rows.set i.toNat (Qu.row rows i).tail=rows:=by
   rw[hr]
   apply List.ext_getElem?
   intro j
   rw[List.getElem?_set]
   split
   ·rename_i e
    subst e
    unfold Qu.row at hr
    rw[List.getD_eq_getElem?_getD,List.getElem?_eq_getElem hi1]at hr
    rw[List.getElem?_eq_getElem hi1,show rows[i.toNat]=[]from hr]
    first |rfl|(rw[if_pos hi1];rfl)
   ·rfl
  refine Tr.close tks (QueA.cl (p:=p) (hp:=hp) (rows:=rows) hs) ?_
  rw[e1,e2,e3,e4,hr]
  exact en_rets (x:=((0:Int),(0:Int),())) rfl ⟨rfl,rfl⟩ tks ens
 |cons x r=>
  rw[hr]at hl
  obtain⟨hx,hg⟩:=Qu.Lk.get (pre:=[]) hl
  refine en_brf (by simpa using hx) (en_nn ?_)
  refine en_ld (k:= .ptr) (off:=0) (x:=some ⟨hp,0,none⟩) (by rw[fa_mk]) tk rfl ?_
  refine en_call (object_get hp S cs hw x 2) tks ?_
  rintro x' M ⟨rfl,rfl⟩
  try simp only[lca,lna]
  rw[hg]
  refine en_brf rfl ?_
  refine en_stSL (j:=i.toNat*2) ha tk (by rintro b o rfl;simp[fa_mk]) (by rw[endC_len,List.length_singleton];omega) rfl ?_
  have hpx:(Ob.put S x 2 0).1=0:=put_of_get (by rw[hg])
  have e3:Qu.pollS S rows i=(Ob.put S x 2 0).2:=by unfold Qu.pollS;rw[if_pos ⟨h',by rw[hr];exact List.cons_ne_nil _ _⟩,hr];rfl
  refine en_br (fun h0=> ?_) (fun h0=> ?_)
  ·have hr0:r=[]:=by
    cases r with
    |nil=>rfl
    |cons y r=>
     have:y=0:=by simpa using h0
     exact absurd this (Qu.Lk.ne hl y (by simp))
   subst hr0
   refine en_stSL (j:=i.toNat*2+1) ha tk (by rintro b o rfl;simp[fa_mk,Nat.add_assoc]) (by rw[setL_length,endC_len,List.length_singleton];omega) rfl ?_
   have e4:setL (setL (endC rows) (i.toNat*2) [i64 (List.headD [] 0)]) (i.toNat*2+1) [i64 0]=endC (rows.set i.toNat (Qu.row rows i).tail):=by
    rw[←endC_set hi1,hr];rfl
   rw[e4]
   refine en_nn ?_
   refine en_ld (k:= .ptr) (off:=0) (x:=some ⟨hp,0,none⟩) (by rw[fa_mk]) tk rfl ?_
   refine en_call (object_put hp S cs hw x 2 0) tks ?_
   rintro x' M ⟨rfl,rfl⟩
   try simp only[lca,lna]
   refine Tr.close tks (QueA.cl (p:=p) (hp:=hp) (rows:=rows.set i.toNat (Qu.row rows i).tail) (by rw[List.length_set];exact hs)) ?_
   rw[e1,e2,e3,hpx,hr]
   exact en_rets (x:=(x,(0:Int),())) rfl ⟨rfl,rfl⟩ tks ens
  ·have hr0:r≠[]:=fun e=>by rw[e]at h0;simp at h0
   have e4:setL (endC rows) (i.toNat*2) [i64 (r.headD 0)]=endC (rows.set i.toNat (Qu.row rows i).tail):=by
    rw[hr]
    show _=endC (rows.set i.toNat r)
    rw[←endC_first hi1 (r:=r) (by rw[hrow,hr];cases r with |nil=>exact absurd rfl hr0|cons y r=>rfl)]
    simp[setL]
   rw[e4]
   refine en_nn ?_
   refine en_ld (k:= .ptr) (off:=0) (x:=some ⟨hp,0,none⟩) (by rw[fa_mk]) tk rfl ?_
   refine en_call (object_put hp S cs hw x 2 0) tks ?_
   rintro x' M ⟨rfl,rfl⟩
   try simp only[lca,lna]
   refine Tr.close tks (QueA.cl (p:=p) (hp:=hp) (rows:=rows.set i.toNat (Qu.row rows i).tail) (by rw[List.length_set];exact hs)) ?_
   rw[e1,e2,e3,hpx,hr]
   exact en_rets (x:=(x,(0:Int),())) rfl ⟨rfl,rfl⟩ tks ens
abbrev SE:RK:= .many [.l .slice,.l (.int .i64)]
theorem que_list(p hp:Nat)(S:Spc)(cs:List Cls)(hw:HWf S cs)(rows:List (List Int))(i:Int)(h':Qu.has rows i=true)(hk:Qu.Lk S (Qu.row rows i))(hn:(Qu.row rows i).length≤2^30):
  Gl.Spec ρ Tryz.prog 66 [.pointer (some ⟨p,0,none⟩),i64 i] [QueA p hp rows,HeapA hp S cs] SE
  fun r M=>(∃s:Slc,r=(s,0,())∧s.n=(Qu.row rows i).length∧M=[SLc s 1 ((Qu.row rows i).map i64),QueA p hp rows,HeapA hp S cs]):=by
 refine Gl.Spec.of (fun Q w h=>F.queue.Queues.List.calls (some ⟨p,0,none⟩) i h) fun R=> ?_
 unfold F.queue.Queues.List
 try simp only[lca,lna]
 refine en_call (que_has p hp rows i) tks ?_
 rintro x' M ⟨rfl,rfl⟩
 try simp only[lca,lna]
 refine en_brf (by rw[h'];rfl) ?_
 obtain⟨hi0,hi1⟩:=row_has h'
 have hrow:rows.getD i.toNat []=Qu.row rows i:=rfl
 refine en_nn (QueA.op tk fun s hs=> ?_)
 refine en_ld (k:= .slice) (off:=1) (x:=s) (by rw[fa_mk]) tk rfl ?_
 refine en_ixSL tk hi0 (by omega) fun a0 ha=> ?_
 refine en_ldSL (j:=i.toNat*2) ha tk (by rintro b o rfl;simp[fa_mk]) (endC_get hi1).1 ?_
 rw[hrow]
 refine Tr.close tks (QueA.cl (p:=p) (hp:=hp) (rows:=rows) hs) ?_
 refine Tr.nilSL 1 ?_
 generalize hq:Qu.row rows i=q at*
 refine en_lp (I:=fun n st M=>∃(pre r:List Int) (t:Slc),q=pre++r∧n=r.length∧st=(t,r.headD 0,())∧t.n=pre.length∧M=SLc t 1 (pre.map i64)::QueA p hp rows::HeapA hp S cs::R) q.length ⟨[],q,_,rfl,rfl,rfl,rfl,rfl⟩ ?_
 rintro n _ _ ⟨pre,r,t,he,rfl,rfl,ht,rfl⟩ X hX
 try simp only[lca,lna]
 have hql:pre.length+r.length=q.length:=by rw[he,List.length_append]
 cases r with
 |nil=>
  refine en_brf rfl ?_
  rw[List.append_nil]at he
  subst he
  exact en_rets (x:=(t,(0:Int),())) rfl ⟨t,rfl,ht,rfl⟩ tks ens
 |cons a r=>
  rw[he]at hk
  obtain⟨h0,hg⟩:=Qu.Lk.get hk
  rw[List.length_cons]at hql
  refine en_brt (by simpa using h0) (en_nw fun b=> ?_)
  refine en_app (s:=t) (x:=⟨some ⟨b,0,none⟩,1,1⟩) (ys:=[i64 a]) appInt tk (Rd.cl tk rfl rfl) rfl (by rw[ht];dsimp only;omega) (by rw[ht];dsimp only;omega) fun r2 hr2=> ?_
  refine Tr.drop (A:=blk b [i64 a]) tk ?_
  refine en_nn (QueA.op tk fun s hs=> ?_)
  refine en_ld (k:= .ptr) (off:=0) (x:=some ⟨hp,0,none⟩) (by rw[fa_mk]) tk rfl ?_
  refine Tr.close tks (QueA.cl (p:=p) (hp:=hp) (rows:=rows) hs) ?_
  refine en_call (object_get hp S cs hw a 2) tks ?_
  rintro x' M ⟨rfl,rfl⟩
  try simp only[lca,lna]
  rw[hg]
  refine en_brf rfl ?_
  have e:pre.map i64++[i64 a]=(pre++[a]).map i64:=by rw[List.map_append];rfl
  rw[e]
  refine Tr.perm (Takes.perm (M:=[SLc r2 1 ((pre++[a]).map i64),QueA p hp rows,HeapA hp S cs]) tks) (hX r.length _ _ (by rw[List.length_cons];omega) ⟨pre++[a],r,r2,by rw[he,List.append_assoc];rfl,rfl,rfl,by rw[hr2,ht,List.length_append];rfl,rfl⟩)
end Go.Proofs.YtfepdmpplahloaaGreat
