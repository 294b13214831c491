/- References: cleared, put to queues, asked for. -/
import Derived.Test.YtfepdmpplahloaaGreatGsRfs
set_option linter.unusedSimpArgs false
set_option linter.unusedVariables false
namespace Go.Proofs.YtfepdmpplahloaaGreat
open Go Go.Gl
variable{ρ0 ρ:FR}{L L':List aA}{Post:Value→List aA→Prop}{T:Tree}
theorem aO.eJ{cs:List aS}:∀{l:List Int} {S:aD},aO S cs→aO (Rf.eJ S l) cs
 |[],_,h=>h
 |a::l,S,h=>aO.eJ (l:=l) (h.put a 0 0)
theorem AI(l:List Int)(S:aD)(a:Int):Rf.eJ S (l++[a])=(Ob.put (Rf.eJ S l) a 0 0).2:=by
 unfold Rf.eJ;rw[List.foldl_append];rfl
theorem xC{l:List Int}{j:Nat}(h:j<l.length):l.take (j+1)=l.take j++[l.getD j 0]:=by
 rw[List.take_add_one,List.getElem?_eq_getElem h,List.getD_eq_getElem?_getD,List.getElem?_eq_getElem h];rfl
theorem zU{l:List Int}{j:Nat}(h:j<l.length):(l.map i64)[j]? =some (i64 (l.getD j 0)):=by
 rw[List.getElem?_map,List.getD_eq_getElem?_getD,List.getElem?_eq_getElem h];rfl
theorem nK(p hp:Nat)(S:aD)(cs:List aS)(hw:aO S cs)(rows:List (List Int))(n:Int)(z:ay)(l:List Int)(ro:eX ρ z 1 (l.map i64))(hl:l.length<2^40):
  Gl.Spec ρ Tryz.prog 92 [.pointer (some ⟨p,0,none⟩),.slice z.a z.n z.c] [cL p hp rows n,au hp S cs] R1
  fun r M=>r=(Rf.clear S l).1∧M=[cL p hp rows n,au hp (Rf.clear S l).2 cs]:=by
 refine Gl.Spec.of (fun Q w h=>F.ref.Refs.Clear.calls (some ⟨p,0,none⟩) z h) fun R=> ?_
 unfold F.ref.Refs.Clear
 have hz:z.n=l.length:=by have:=ro.1;rw[List.length_map]at this;omega
 refine ak rfl ?_
 refine aP (I:=fun m s M=>∃j:Nat,j≤l.length∧m=l.length-j∧s=((j:Int),())∧M=cL p hp rows n::au hp S cs::R∧∀k,k<j→Qu.ba S (l.getD k 0)=true) l.length ⟨0,by omega,rfl,rfl,rfl,fun k hk=>by omega⟩ ?_
 rintro m _ _ ⟨j,hj,rfl,rfl,rfl,hR⟩ X hX
 try simp only[aq,al]
 refine aj (fun hc=> ?_) (fun hc=> ?_)
 ·have hj':(j:Int)<(z.n:Nat):=of_decide_eq_true hc
  have hjl:j<l.length:=by omega
  refine bJ ro (by omega) hj' fun a0 ha=> ?_
  refine bZ (j:=j) (x:=l.getD j 0) ha ro (by rintro b o rfl;rw[af];simp) (zU hjl) ?_
  refine ae (mD p hp S cs hw rows n (l.getD j 0)) ag ?_
  rintro x' M ⟨rfl,rfl⟩
  try simp only[aq,al]
  rw[Rf.uM]
  by_cases hr:Qu.ba S (l.getD j 0)=true
  ·rw[if_pos hr]
   refine ak rfl ?_
   rw[wrap64 (by omega) (by omega)]
   refine hX (l.length-(j+1)) _ _ (by omega) ⟨j+1,by omega,rfl,rfl,rfl,fun k hk=> ?_⟩
   rcases Nat.lt_succ_iff_lt_or_eq.mp hk with h|rfl
   ·exact hR k h
   ·exact hr
  ·rw[if_neg hr]
   refine aH rfl ?_
   have e:Rf.clear S l=(5,S):=by
    unfold Rf.clear
    rw[if_neg]
    intro g
    rw[List.all_eq_true]at g
    refine hr (g _ ?_)
    rw[List.getD_eq_getElem?_getD,List.getElem?_eq_getElem hjl]
    exact List.getElem_mem _
   rw[e]
   exact aa (x:=(5:Int)) rfl ⟨rfl,rfl⟩ ag aB
 ·have hj':¬(j:Int)<(z.n:Nat):=of_decide_eq_false hc
  have hjl:j=l.length:=by omega
  have e:Rf.clear S l=(0,Rf.eJ S l):=by
   unfold Rf.clear
   rw[if_pos]
   rw[List.all_eq_true]
   intro a ha
   obtain⟨k,hk,rfl⟩:=List.mem_iff_getElem.mp ha
   have:=hR k (by omega)
   rw[List.getD_eq_getElem?_getD,List.getElem?_eq_getElem hk]at this
   exact this
  rw[e]
  clear hX
  refine aP (I:=fun m s M=>∃j:Nat,j≤l.length∧m=l.length-j∧s=((j:Int),())∧M=cL p hp rows n::au hp (Rf.eJ S (l.take j)) cs::R) l.length ⟨0,by omega,rfl,rfl,rfl⟩ ?_
  rintro m _ _ ⟨j,hj,rfl,rfl,rfl⟩ X hX
  try simp only[aq,al]
  refine aj (fun hc=> ?_) (fun hc=> ?_)
  ·have hj':(j:Int)<(z.n:Nat):=of_decide_eq_true hc
   have hjl:j<l.length:=by omega
   refine bJ ro (by omega) hj' fun a0 ha=> ?_
   refine bZ (j:=j) (x:=l.getD j 0) ha ro (by rintro b o rfl;rw[af];simp) (zU hjl) ?_
   refine ah (cL.op tk fun q=> ?_)
   refine ai (k:= .ptr) (off:=0) (x:=some ⟨q,0,none⟩) (by rw[af]) tk rfl (ah ?_)
   refine dk (by rw[af]) tk ?_
   refine Tr.close ag (cL.cl (p:=p) (q:=q) (hp:=hp) (rows:=rows) (n:=n)) ?_
   refine ae (cM hp (Rf.eJ S (l.take j)) cs (aO.eJ hw) (l.getD j 0) 0 0) ag ?_
   rintro x' M ⟨rfl,rfl⟩
   try simp only[aq,al]
   rw[wrap64 (by omega) (by omega)]
   rw[←AI,←xC hjl]
   exact Tr.perm (aI.perm (M:=[cL p hp rows n,au hp (Rf.eJ S (l.take (j+1))) cs]) ag) (hX (l.length-(j+1)) _ _ (by omega) ⟨j+1,by omega,rfl,rfl,rfl⟩)
  ·have hj':¬(j:Int)<(z.n:Nat):=of_decide_eq_false hc
   rw[List.take_of_length_le (by omega)]
   exact aa (x:=(0:Int)) rfl ⟨rfl,rfl⟩ ag aB
theorem bb{S:aD}{cs:List aS}(hw:aO S cs){a i x:Int}(b:Int):Ob.head (Ob.put S a i x).2 b=Ob.head S b:=by
 cases hb:Ob.head S b with
 |none=>
  obtain⟨ws',e,hl⟩:=pG S a i x
  rw[e]
  unfold Ob.head at hb⊢
  rw[eN hl]
  cases hf:Sp.find S b with
  |none=>rfl
  |some y=>
   rw[hf]at hb
   dsimp only at hb⊢
   by_cases g:(y.1:Int)=b
   ·rw[if_pos g]at hb;cases hb
   ·rw[if_neg g]
 |some h=>
  by_cases g:(Ob.fieldAt S a i).2=0
  ·obtain⟨hd,hh,h0,h1,_⟩:=Ob.ee hw g
   exact((Ob.j9 hw hh h0 h1).2 _ _ hb).1
  ·have e:(Ob.put S a i x).2=S:=by unfold Ob.put;rw[if_pos g]
   rw[e,hb]
theorem wv{S:aD}{cs:List aS}(hw:aO S cs){a i x b:Int}(h0:0≤i)(hr:Qu.ba S a=true)(h5:i<5):Qu.ba (Ob.put S a i x).2 b=Qu.ba S b:=by
 unfold Qu.ba
 rw[bb hw]
theorem nW(p hp:Nat)(S:aD)(cs:List aS)(hw:aO S cs)(rows:List (List Int))(hz:∀r∈rows,∀a∈r,a≠0)(n a:Int)(hb:Qu.ba S a=true→Rf.qn S a<2^62):
  Gl.Spec ρ Tryz.prog 93 [.pointer (some ⟨p,0,none⟩),i64 a] [cL p hp rows n,au hp S cs] (.many [.l .bool,.l (.int .i64)])
  fun r M=>r=((Rf.ct S rows a).1.1,(Rf.ct S rows a).1.2,())∧M=[cL p hp (Rf.ct S rows a).2.2 n,au hp (Rf.ct S rows a).2.1 cs]:=by
 refine Gl.Spec.of (fun Q w h=>F.ref.Refs.oG.calls (some ⟨p,0,none⟩) a h) fun R=> ?_
 unfold F.ref.Refs.oG
 refine ax fun b=> ?_
 refine ae (Spec.Fc (b:=b) (cs:=[i64 a]) fun ρ' _ ⟨ty,hty⟩=>nK p hp S cs hw rows n ⟨some ⟨b,0,none⟩,1,1⟩ [a] ⟨rfl,.inr ⟨b,0,_,ty,_,rfl,hty,fun i hi=>by simp⟩⟩ (by rw[List.length_singleton];decide)) ag ?_
 rintro _ _ ⟨_,⟨rfl,rfl⟩,rfl⟩
 try simp only[aq,al]
 refine Tr.drop (A:=aw b [i64 a]) tk ?_
 have ec:Rf.clear S [a]=if Qu.ba S a then(0,(Ob.put S a 0 0).2)else(5,S):=by
  unfold Rf.clear
  rw[List.all_cons,List.all_nil,Bool.and_true];rfl
 by_cases hr:Qu.ba S a=true
 rotate_left
 ·rw[ec,if_neg hr]
  refine aH rfl ?_
  have e:Rf.ct S rows a=((false,5),S,rows):=by unfold Rf.ct;rw[if_neg hr]
  rw[e]
  exact aa (x:=(false,(5:Int),())) rfl ⟨rfl,rfl⟩ ag aB
 rw[ec,if_pos hr]
 replace hb:=hb hr
 obtain⟨hd,hh,hk⟩:=aM hr
 have hn5:=dm hw hh hk
 have hw1:=hw.put a 0 0
 have hr1:Qu.ba (Ob.put S a 0 0).2 a=true:=by rw[wv hw (by omega) hr (by omega)];exact hr
 have hqn:(Ob.get (Ob.put S a 0 0).2 a 1).1=Rf.qn S a:=rfl
 have hg:(Ob.get (Ob.put S a 0 0).2 a 1).2=0:=by
  obtain⟨hd1,hh1,hk1⟩:=aM hr1
  rw[Ob.da hh1 (by omega) (by rw[dm hw1 hh1 hk1];omega)]
 refine ak rfl (ah (cL.op tk fun q=> ?_))
 refine ai (k:= .ptr) (off:=0) (x:=some ⟨q,0,none⟩) (by rw[af]) tk rfl (ah ?_)
 refine dk (by rw[af]) tk ?_
 have hq:Rf.ct S rows a=(if Rf.qn S a<1 then((false,0),(Ob.put S a 0 0).2,rows)else
   if Qu.dp (Ob.put S a 0 0).2 rows (Rf.qn S a-1) a≠0 then((false,Qu.dp (Ob.put S a 0 0).2 rows (Rf.qn S a-1) a),Qu.bh (Ob.put S a 0 0).2 rows (Rf.qn S a-1) a,Qu.cE (Ob.put S a 0 0).2 rows (Rf.qn S a-1) a)else
   ((true,0),(Ob.put (Qu.bh (Ob.put S a 0 0).2 rows (Rf.qn S a-1) a) a 1 (-1)).2,Qu.cE (Ob.put S a 0 0).2 rows (Rf.qn S a-1) a)):=by
  unfold Rf.ct;rw[if_pos hr]
 rw[hq]
 clear hq
 refine ae (dg hp (Ob.put S a 0 0).2 cs hw1 a 1) ag ?_
 rintro x' M ⟨rfl,rfl⟩
 try simp only[aq,al]
 rw[hg,hqn]
 refine ak rfl (aj (fun h1=> ?_) (fun h1=> ?_))
 ·have h1':Rf.qn S a<1:=of_decide_eq_true h1
  rw[if_pos h1']
  refine Tr.close ag (cL.cl (p:=p) (q:=q) (hp:=hp) (rows:=rows) (n:=n)) ?_
  exact aa (x:=(false,(0:Int),())) rfl ⟨rfl,rfl⟩ ag aB
 have h1':¬Rf.qn S a<1:=of_decide_eq_false h1
 rw[if_neg h1']
 refine ah ?_
 refine ai (k:= .ptr) (off:=0) (x:=some ⟨q,0,none⟩) (by rw[af]) tk rfl ?_
 rw[wrap64 (n:=Rf.qn S a-1) (by omega) (by omega)]
 refine ae (AS q hp (Ob.put S a 0 0).2 cs hw1 rows hz (Rf.qn S a-1) a) ag ?_
 rintro x' M ⟨rfl,rfl⟩
 try simp only[aq,al]
 have hw2:aO (Qu.bh (Ob.put S a 0 0).2 rows (Rf.qn S a-1) a) cs:=by
  unfold Qu.bh
  split
  ·split
   ·exact hw1.put _ _ _
   ·exact(hw1.put _ _ _).put _ _ _
  ·exact hw1
 have hr2:Qu.ba (Qu.bh (Ob.put S a 0 0).2 rows (Rf.qn S a-1) a) a=true∨Qu.dp (Ob.put S a 0 0).2 rows (Rf.qn S a-1) a≠0:=by
  unfold Qu.bh Qu.dp
  rw[hr1,Bool.and_true]
  by_cases g:Qu.has rows (Rf.qn S a-1)=true
  ·rw[if_pos g,if_pos g,if_pos rfl]
   have hr3:Qu.ba (Ob.put (Ob.put S a 0 0).2 a 2 0).2 a=true:=by rw[wv hw1 (by omega) hr1 (by omega)];exact hr1
   by_cases g2:Qu.row rows (Rf.qn S a-1)=[]
   ·rw[if_pos g2];exact .inl hr3
   ·rw[if_neg g2,if_neg g2]
    obtain⟨hd3,hh3,hk3⟩:=aM hr3
    refine .inl ?_
    unfold Qu.ba
    rw[bb (hw1.put a 2 0),hh3]
    simpa using hk3
  ·rw[if_neg g,if_neg g];exact .inr (by decide)
 refine aj (fun h2=> ?_) (fun h2=> ?_)
 ·have h2':Qu.dp (Ob.put S a 0 0).2 rows (Rf.qn S a-1) a≠0:=by simpa using h2
  rw[if_pos h2']
  refine Tr.close ag (cL.cl (p:=p) (q:=q) (hp:=hp) (rows:=Qu.cE (Ob.put S a 0 0).2 rows (Rf.qn S a-1) a) (n:=n)) ?_
  exact aa (x:=(false,Qu.dp (Ob.put S a 0 0).2 rows (Rf.qn S a-1) a,())) rfl ⟨rfl,rfl⟩ ag aB
 ·have h2':Qu.dp (Ob.put S a 0 0).2 rows (Rf.qn S a-1) a=0:=by simpa using h2
  rw[if_neg fun g=>g h2']
  have hr4:=hr2.resolve_right fun g=>g h2'
  obtain⟨hd4,hh4,hk4⟩:=aM hr4
  refine ah ?_
  refine ai (k:= .ptr) (off:=0) (x:=some ⟨q,0,none⟩) (by rw[af]) tk rfl (ah ?_)
  refine dk (by rw[af]) tk ?_
  refine Tr.close ag (cL.cl (p:=p) (q:=q) (hp:=hp) (rows:=Qu.cE (Ob.put S a 0 0).2 rows (Rf.qn S a-1) a) (n:=n)) ?_
  refine ae (cM hp (Qu.bh (Ob.put S a 0 0).2 rows (Rf.qn S a-1) a) cs hw2 a 1 (-1)) ag ?_
  rintro x' M ⟨rfl,rfl⟩
  try simp only[aq,al]
  rw[vN hh4 (by omega) (by rw[dm hw2 hh4 hk4];omega)]
  exact aa (x:=(true,(0:Int),())) rfl ⟨rfl,rfl⟩ ag aB
theorem rS(p hp:Nat)(S:aD)(cs:List aS)(hw:aO S cs)(rows:List (List Int))(n a t:Int):
  Gl.Spec ρ Tryz.prog 91 [.pointer (some ⟨p,0,none⟩),i64 a,i64 t] [cL p hp rows n,au hp S cs] P2
  fun r M=>r=((Rf.aG S a t).1.1,(Rf.aG S a t).1.2,())∧M=[cL p hp rows n,au hp (Rf.aG S a t).2 cs]:=by
 refine Gl.Spec.of (fun Q w h=>F.ref.Refs.l5.calls (some ⟨p,0,none⟩) a t h) fun R=> ?_
 unfold F.ref.Refs.l5
 refine ae (mD p hp S cs hw rows n a) ag ?_
 rintro x' M ⟨rfl,rfl⟩
 try simp only[aq,al]
 refine aj (fun h=> ?_) (fun h=> ?_)
 ·have h':(Rf.str S a).2≠0:=by simpa using h
  have e:Rf.aG S a t=((0,(Rf.str S a).2),S):=by unfold Rf.aG;rw[if_pos (.inl h')]
  rw[e]
  exact aa (x:=((0:Int),(Rf.str S a).2,())) rfl ⟨rfl,rfl⟩ ag aB
 have h':(Rf.str S a).2=0:=by simpa using h
 refine aj (fun h3=> ?_) (fun h3=> ?_)
 ·have h3':(Rf.str S a).1=3:=by simpa using h3
  have e:Rf.aG S a t=((0,(Rf.str S a).2),S):=by unfold Rf.aG;rw[if_pos (.inr h3')]
  rw[e]
  exact aa (x:=((0:Int),(Rf.str S a).2,())) rfl ⟨rfl,rfl⟩ ag aB
 have h3':(Rf.str S a).1≠3:=by simpa using h3
 have hr:Qu.ba S a=true:=by
  rw[Rf.uM]at h'
  split at h'
  ·assumption
  ·cases h'
 obtain⟨hd,hh,hk⟩:=aM hr
 have hn5:=dm hw hh hk
 have hg:(Ob.get S a 0).2=0:=by rw[Ob.da hh (by omega) (by omega)]
 have e:Rf.aG S a t=(((Ob.get S a 0).1,0),if(Rf.str S a).1=1∧(Ob.get S a 0).1≠0 then(Ob.put S a 3 t).2 else S):=by
  unfold Rf.aG;rw[if_neg (by rintro(g|g);exact g h';exact h3' g)]
 rw[e]
 refine ah (cL.op tk fun q=> ?_)
 refine ai (k:= .ptr) (off:=0) (x:=some ⟨q,0,none⟩) (by rw[af]) tk rfl (ah ?_)
 refine dk (by rw[af]) tk ?_
 refine ae (dg hp S cs hw a 0) ag ?_
 rintro x' M ⟨rfl,rfl⟩
 try simp only[aq,al]
 rw[hg]
 refine ak rfl ?_
 generalize(Ob.get S a 0).1=x at*
 refine aj (fun h4=> ?_) (fun h4=> ?_)
 ·have h4':(Rf.str S a).1=1:=by simpa using h4
  refine aj (fun h5=> ?_) (fun h5=> ?_)
  ·have h5':x≠0:=by simpa using h5
   rw[if_pos ⟨h4',h5'⟩]
   refine ah ?_
   refine ai (k:= .ptr) (off:=0) (x:=some ⟨q,0,none⟩) (by rw[af]) tk rfl (ah ?_)
   refine dk (by rw[af]) tk ?_
   refine Tr.close ag (cL.cl (p:=p) (q:=q) (hp:=hp) (rows:=rows) (n:=n)) ?_
   refine ae (cM hp S cs hw a 3 t) ag ?_
   rintro x' M ⟨rfl,rfl⟩
   try simp only[aq,al]
   exact aa (x:=(x,(0:Int),())) rfl ⟨rfl,rfl⟩ ag aB
  ·have h5':x=0:=by simpa using h5
   rw[if_neg fun g=>g.2 h5']
   refine Tr.close ag (cL.cl (p:=p) (q:=q) (hp:=hp) (rows:=rows) (n:=n)) ?_
   exact aa (x:=(x,(0:Int),())) rfl ⟨rfl,rfl⟩ ag aB
 ·have h4':(Rf.str S a).1≠1:=by simpa using h4
  rw[if_neg fun g=>h4' g.1]
  refine Tr.close ag (cL.cl (p:=p) (q:=q) (hp:=hp) (rows:=rows) (n:=n)) ?_
  exact aa (x:=(x,(0:Int),())) rfl ⟨rfl,rfl⟩ ag aB
end Go.Proofs.YtfepdmpplahloaaGreat
