/- References: cleared, put to queues, asked for. -/
import Derived.Test.YtfepdmpplahloaaGreatGsRfs
set_option linter.unusedSimpArgs false
set_option linter.unusedVariables false
namespace Go.Proofs.YtfepdmpplahloaaGreat
open Go Go.Gl
variable{ρ0 ρ:FR}{L L':List Asn}{Post:Value→List Asn→Prop}{T:Tree}
theorem HWf.clr{cs:List Cls}:∀{l:List Int} {S:Spc},HWf S cs→HWf (Rf.clr S l) cs
 |[],_,h=>h
 |a::l,S,h=>HWf.clr (l:=l) (h.put a 0 0)
theorem clr_snoc(l:List Int)(S:Spc)(a:Int):Rf.clr S (l++[a])=(Ob.put (Rf.clr S l) a 0 0).2:=by
 unfold Rf.clr;rw[List.foldl_append];rfl
theorem take_snoc{l:List Int}{j:Nat}(h:j<l.length):l.take (j+1)=l.take j++[l.getD j 0]:=by
 rw[List.take_add_one,List.getElem?_eq_getElem h,List.getD_eq_getElem?_getD,List.getElem?_eq_getElem h];rfl
theorem ro_get{l:List Int}{j:Nat}(h:j<l.length):(l.map i64)[j]? =some (i64 (l.getD j 0)):=by
 rw[List.getElem?_map,List.getD_eq_getElem?_getD,List.getElem?_eq_getElem h];rfl
theorem rfs_clear(p hp:Nat)(S:Spc)(cs:List Cls)(hw:HWf S cs)(rows:List (List Int))(n:Int)(z:Slc)(l:List Int)(ro:RoS ρ z 1 (l.map i64))(hl:l.length<2^40):
  Gl.Spec ρ Tryz.prog 92 [.pointer (some ⟨p,0,none⟩),.slice z.a z.n z.c] [RfA p hp rows n,HeapA hp S cs] R1
  fun r M=>r=(Rf.clear S l).1∧M=[RfA p hp rows n,HeapA hp (Rf.clear S l).2 cs]:=by
 refine Gl.Spec.of (fun Q w h=>F.ref.Refs.Clear.calls (some ⟨p,0,none⟩) z h) fun R=> ?_
 unfold F.ref.Refs.Clear
 have hz:z.n=l.length:=by have:=ro.1;rw[List.length_map]at this;omega
 refine en_brf rfl ?_
 refine en_lp (I:=fun m s M=>∃j:Nat,j≤l.length∧m=l.length-j∧s=((j:Int),())∧M=RfA p hp rows n::HeapA hp S cs::R∧∀k,k<j→Qu.isR S (l.getD k 0)=true) l.length ⟨0,by omega,rfl,rfl,rfl,fun k hk=>by omega⟩ ?_
 rintro m _ _ ⟨j,hj,rfl,rfl,rfl,hR⟩ X hX
 try simp only[lca,lna]
 refine en_br (fun hc=> ?_) (fun hc=> ?_)
 ·have hj':(j:Int)<(z.n:Nat):=of_decide_eq_true hc
  have hjl:j<l.length:=by omega
  refine en_ixRo ro (by omega) hj' fun a0 ha=> ?_
  refine en_ldRo (j:=j) (x:=l.getD j 0) ha ro (by rintro b o rfl;rw[fa_mk];simp) (ro_get hjl) ?_
  refine en_call (rfs_strength p hp S cs hw rows n (l.getD j 0)) tks ?_
  rintro x' M ⟨rfl,rfl⟩
  try simp only[lca,lna]
  rw[Rf.str_is]
  by_cases hr:Qu.isR S (l.getD j 0)=true
  ·rw[if_pos hr]
   refine en_brf rfl ?_
   rw[wrap64 (by omega) (by omega)]
   refine hX (l.length-(j+1)) _ _ (by omega) ⟨j+1,by omega,rfl,rfl,rfl,fun k hk=> ?_⟩
   rcases Nat.lt_succ_iff_lt_or_eq.mp hk with h|rfl
   ·exact hR k h
   ·exact hr
  ·rw[if_neg hr]
   refine en_brt rfl ?_
   have e:Rf.clear S l=(5,S):=by
    unfold Rf.clear
    rw[if_neg]
    intro g
    rw[List.all_eq_true]at g
    refine hr (g _ ?_)
    rw[List.getD_eq_getElem?_getD,List.getElem?_eq_getElem hjl]
    exact List.getElem_mem _
   rw[e]
   exact en_rets (x:=(5:Int)) rfl ⟨rfl,rfl⟩ tks ens
 ·have hj':¬(j:Int)<(z.n:Nat):=of_decide_eq_false hc
  have hjl:j=l.length:=by omega
  have e:Rf.clear S l=(0,Rf.clr S l):=by
   unfold Rf.clear
   rw[if_pos]
   rw[List.all_eq_true]
   intro a ha
   obtain⟨k,hk,rfl⟩:=List.mem_iff_getElem.mp ha
   have:=hR k (by omega)
   rw[List.getD_eq_getElem?_getD,List.getElem?_eq_getElem hk]at this
   exact this
  rw[e]
  clear hX
  refine en_lp (I:=fun m s M=>∃j:Nat,j≤l.length∧m=l.length-j∧s=((j:Int),())∧M=RfA p hp rows n::HeapA hp (Rf.clr S (l.take j)) cs::R) l.length ⟨0,by omega,rfl,rfl,rfl⟩ ?_
  rintro m _ _ ⟨j,hj,rfl,rfl,rfl⟩ X hX
  try simp only[lca,lna]
  refine en_br (fun hc=> ?_) (fun hc=> ?_)
  ·have hj':(j:Int)<(z.n:Nat):=of_decide_eq_true hc
   have hjl:j<l.length:=by omega
   refine en_ixRo ro (by omega) hj' fun a0 ha=> ?_
   refine en_ldRo (j:=j) (x:=l.getD j 0) ha ro (by rintro b o rfl;rw[fa_mk];simp) (ro_get hjl) ?_
   refine en_nn (RfA.op tk fun q=> ?_)
   refine en_ld (k:= .ptr) (off:=0) (x:=some ⟨q,0,none⟩) (by rw[fa_mk]) tk rfl (en_nn ?_)
   refine que_heap (by rw[fa_mk]) tk ?_
   refine Tr.close tks (RfA.cl (p:=p) (q:=q) (hp:=hp) (rows:=rows) (n:=n)) ?_
   refine en_call (object_put hp (Rf.clr S (l.take j)) cs (HWf.clr hw) (l.getD j 0) 0 0) tks ?_
   rintro x' M ⟨rfl,rfl⟩
   try simp only[lca,lna]
   rw[wrap64 (by omega) (by omega)]
   rw[←clr_snoc,←take_snoc hjl]
   exact Tr.perm (Takes.perm (M:=[RfA p hp rows n,HeapA hp (Rf.clr S (l.take (j+1))) cs]) tks) (hX (l.length-(j+1)) _ _ (by omega) ⟨j+1,by omega,rfl,rfl,rfl⟩)
  ·have hj':¬(j:Int)<(z.n:Nat):=of_decide_eq_false hc
   rw[List.take_of_length_le (by omega)]
   exact en_rets (x:=(0:Int)) rfl ⟨rfl,rfl⟩ tks ens
theorem put_head{S:Spc}{cs:List Cls}(hw:HWf S cs){a i x:Int}(b:Int):Ob.head (Ob.put S a i x).2 b=Ob.head S b:=by
 cases hb:Ob.head S b with
 |none=>
  obtain⟨ws',e,hl⟩:=put_pg S a i x
  rw[e]
  unfold Ob.head at hb⊢
  rw[find_ws hl]
  cases hf:Sp.find S b with
  |none=>rfl
  |some y=>
   rw[hf]at hb
   dsimp only at hb⊢
   by_cases g:(y.1:Int)=b
   ·rw[if_pos g]at hb;cases hb
   ·rw[if_neg g]
 |some h=>
  by_cases g:(Ob.fieldAt S a i).2=0
  ·obtain⟨hd,hh,h0,h1,_⟩:=Ob.fieldAt_ok hw g
   exact((Ob.put_keep hw hh h0 h1).2 _ _ hb).1
  ·have e:(Ob.put S a i x).2=S:=by unfold Ob.put;rw[if_pos g]
   rw[e,hb]
theorem isR_put{S:Spc}{cs:List Cls}(hw:HWf S cs){a i x b:Int}(h0:0≤i)(hr:Qu.isR S a=true)(h5:i<5):Qu.isR (Ob.put S a i x).2 b=Qu.isR S b:=by
 unfold Qu.isR
 rw[put_head hw]
theorem rfs_enqueue(p hp:Nat)(S:Spc)(cs:List Cls)(hw:HWf S cs)(rows:List (List Int))(hz:∀r∈rows,∀a∈r,a≠0)(n a:Int)(hb:Qu.isR S a=true→Rf.qn S a<2^62):
  Gl.Spec ρ Tryz.prog 93 [.pointer (some ⟨p,0,none⟩),i64 a] [RfA p hp rows n,HeapA hp S cs] (.many [.l .bool,.l (.int .i64)])
  fun r M=>r=((Rf.enq S rows a).1.1,(Rf.enq S rows a).1.2,())∧M=[RfA p hp (Rf.enq S rows a).2.2 n,HeapA hp (Rf.enq S rows a).2.1 cs]:=by
 refine Gl.Spec.of (fun Q w h=>F.ref.Refs.Enqueue.calls (some ⟨p,0,none⟩) a h) fun R=> ?_
 unfold F.ref.Refs.Enqueue
 refine en_nw fun b=> ?_
 refine en_call (Spec.ownB (b:=b) (cs:=[i64 a]) fun ρ' _ ⟨ty,hty⟩=>rfs_clear p hp S cs hw rows n ⟨some ⟨b,0,none⟩,1,1⟩ [a] ⟨rfl,.inr ⟨b,0,_,ty,_,rfl,hty,fun i hi=>by simp⟩⟩ (by rw[List.length_singleton];decide)) tks ?_
 rintro _ _ ⟨_,⟨rfl,rfl⟩,rfl⟩
 try simp only[lca,lna]
 refine Tr.drop (A:=blk b [i64 a]) tk ?_
 have ec:Rf.clear S [a]=if Qu.isR S a then(0,(Ob.put S a 0 0).2)else(5,S):=by
  unfold Rf.clear
  rw[List.all_cons,List.all_nil,Bool.and_true];rfl
 by_cases hr:Qu.isR S a=true
 rotate_left
 ·rw[ec,if_neg hr]
  refine en_brt rfl ?_
  have e:Rf.enq S rows a=((false,5),S,rows):=by unfold Rf.enq;rw[if_neg hr]
  rw[e]
  exact en_rets (x:=(false,(5:Int),())) rfl ⟨rfl,rfl⟩ tks ens
 rw[ec,if_pos hr]
 replace hb:=hb hr
 obtain⟨hd,hh,hk⟩:=isR_head hr
 have hn5:=isR_n hw hh hk
 have hw1:=hw.put a 0 0
 have hr1:Qu.isR (Ob.put S a 0 0).2 a=true:=by rw[isR_put hw (by omega) hr (by omega)];exact hr
 have hqn:(Ob.get (Ob.put S a 0 0).2 a 1).1=Rf.qn S a:=rfl
 have hg:(Ob.get (Ob.put S a 0 0).2 a 1).2=0:=by
  obtain⟨hd1,hh1,hk1⟩:=isR_head hr1
  rw[Ob.get_ok hh1 (by omega) (by rw[isR_n hw1 hh1 hk1];omega)]
 refine en_brf rfl (en_nn (RfA.op tk fun q=> ?_))
 refine en_ld (k:= .ptr) (off:=0) (x:=some ⟨q,0,none⟩) (by rw[fa_mk]) tk rfl (en_nn ?_)
 refine que_heap (by rw[fa_mk]) tk ?_
 have hq:Rf.enq S rows a=(if Rf.qn S a<1 then((false,0),(Ob.put S a 0 0).2,rows)else
   if Qu.pushR (Ob.put S a 0 0).2 rows (Rf.qn S a-1) a≠0 then((false,Qu.pushR (Ob.put S a 0 0).2 rows (Rf.qn S a-1) a),Qu.pushS (Ob.put S a 0 0).2 rows (Rf.qn S a-1) a,Qu.pushQ (Ob.put S a 0 0).2 rows (Rf.qn S a-1) a)else
   ((true,0),(Ob.put (Qu.pushS (Ob.put S a 0 0).2 rows (Rf.qn S a-1) a) a 1 (-1)).2,Qu.pushQ (Ob.put S a 0 0).2 rows (Rf.qn S a-1) a)):=by
  unfold Rf.enq;rw[if_pos hr]
 rw[hq]
 clear hq
 refine en_call (object_get hp (Ob.put S a 0 0).2 cs hw1 a 1) tks ?_
 rintro x' M ⟨rfl,rfl⟩
 try simp only[lca,lna]
 rw[hg,hqn]
 refine en_brf rfl (en_br (fun h1=> ?_) (fun h1=> ?_))
 ·have h1':Rf.qn S a<1:=of_decide_eq_true h1
  rw[if_pos h1']
  refine Tr.close tks (RfA.cl (p:=p) (q:=q) (hp:=hp) (rows:=rows) (n:=n)) ?_
  exact en_rets (x:=(false,(0:Int),())) rfl ⟨rfl,rfl⟩ tks ens
 have h1':¬Rf.qn S a<1:=of_decide_eq_false h1
 rw[if_neg h1']
 refine en_nn ?_
 refine en_ld (k:= .ptr) (off:=0) (x:=some ⟨q,0,none⟩) (by rw[fa_mk]) tk rfl ?_
 rw[wrap64 (n:=Rf.qn S a-1) (by omega) (by omega)]
 refine en_call (que_push q hp (Ob.put S a 0 0).2 cs hw1 rows hz (Rf.qn S a-1) a) tks ?_
 rintro x' M ⟨rfl,rfl⟩
 try simp only[lca,lna]
 have hw2:HWf (Qu.pushS (Ob.put S a 0 0).2 rows (Rf.qn S a-1) a) cs:=by
  unfold Qu.pushS
  split
  ·split
   ·exact hw1.put _ _ _
   ·exact(hw1.put _ _ _).put _ _ _
  ·exact hw1
 have hr2:Qu.isR (Qu.pushS (Ob.put S a 0 0).2 rows (Rf.qn S a-1) a) a=true∨Qu.pushR (Ob.put S a 0 0).2 rows (Rf.qn S a-1) a≠0:=by
  unfold Qu.pushS Qu.pushR
  rw[hr1,Bool.and_true]
  by_cases g:Qu.has rows (Rf.qn S a-1)=true
  ·rw[if_pos g,if_pos g,if_pos rfl]
   have hr3:Qu.isR (Ob.put (Ob.put S a 0 0).2 a 2 0).2 a=true:=by rw[isR_put hw1 (by omega) hr1 (by omega)];exact hr1
   by_cases g2:Qu.row rows (Rf.qn S a-1)=[]
   ·rw[if_pos g2];exact .inl hr3
   ·rw[if_neg g2,if_neg g2]
    obtain⟨hd3,hh3,hk3⟩:=isR_head hr3
    refine .inl ?_
    unfold Qu.isR
    rw[put_head (hw1.put a 2 0),hh3]
    simpa using hk3
  ·rw[if_neg g,if_neg g];exact .inr (by decide)
 refine en_br (fun h2=> ?_) (fun h2=> ?_)
 ·have h2':Qu.pushR (Ob.put S a 0 0).2 rows (Rf.qn S a-1) a≠0:=by simpa using h2
  rw[if_pos h2']
  refine Tr.close tks (RfA.cl (p:=p) (q:=q) (hp:=hp) (rows:=Qu.pushQ (Ob.put S a 0 0).2 rows (Rf.qn S a-1) a) (n:=n)) ?_
  exact en_rets (x:=(false,Qu.pushR (Ob.put S a 0 0).2 rows (Rf.qn S a-1) a,())) rfl ⟨rfl,rfl⟩ tks ens
 ·have h2':Qu.pushR (Ob.put S a 0 0).2 rows (Rf.qn S a-1) a=0:=by simpa using h2
  rw[if_neg fun g=>g h2']
  have hr4:=hr2.resolve_right fun g=>g h2'
  obtain⟨hd4,hh4,hk4⟩:=isR_head hr4
  refine en_nn ?_
  refine en_ld (k:= .ptr) (off:=0) (x:=some ⟨q,0,none⟩) (by rw[fa_mk]) tk rfl (en_nn ?_)
  refine que_heap (by rw[fa_mk]) tk ?_
  refine Tr.close tks (RfA.cl (p:=p) (q:=q) (hp:=hp) (rows:=Qu.pushQ (Ob.put S a 0 0).2 rows (Rf.qn S a-1) a) (n:=n)) ?_
  refine en_call (object_put hp (Qu.pushS (Ob.put S a 0 0).2 rows (Rf.qn S a-1) a) cs hw2 a 1 (-1)) tks ?_
  rintro x' M ⟨rfl,rfl⟩
  try simp only[lca,lna]
  rw[put_in hh4 (by omega) (by rw[isR_n hw2 hh4 hk4];omega)]
  exact en_rets (x:=(true,(0:Int),())) rfl ⟨rfl,rfl⟩ tks ens
end Go.Proofs.YtfepdmpplahloaaGreat
