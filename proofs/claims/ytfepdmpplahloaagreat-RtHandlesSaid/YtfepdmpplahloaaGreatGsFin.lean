/- Finalizers. -/
import Derived.Test.YtfepdmpplahloaaGreatGsSl
set_option linter.unusedSimpArgs false
set_option linter.unusedVariables false
namespace Go.Proofs.YtfepdmpplahloaaGreat
open Go Go.Gl
variable{ρ0 ρ:FR}{L L':List Asn}{Post:Value→List Asn→Prop}{T:Tree}
def FinA(p hp:Nat)(wa pe:List Int):Asn:=fun h=>∃i:Slc×Slc,(i.1.n=wa.length∧i.2.n=pe.length)∧star [blk p [.pointer (some ⟨hp,0,none⟩),.slice i.1.a i.1.n i.1.c,.slice i.2.a i.2.n i.2.c],SLc i.1 1 (wa.map i64),SLc i.2 1 (pe.map i64)] h
theorem FinA.op{p hp:Nat}{wa pe:List Int}(t:Take L (FinA p hp wa pe) L')(h:∀s z:Slc,s.n=wa.length→z.n=pe.length→Tr ρ0 ρ (blk p [.pointer (some ⟨hp,0,none⟩),.slice s.a s.n s.c,.slice z.a z.n z.c]::SLc s 1 (wa.map i64)::SLc z 1 (pe.map i64)::L') T Post):Tr ρ0 ρ L T Post:=
 Tr.openL (M:=fun i:Slc×Slc=>[blk p [.pointer (some ⟨hp,0,none⟩),.slice i.1.a i.1.n i.1.c,.slice i.2.a i.2.n i.2.c],SLc i.1 1 (wa.map i64),SLc i.2 1 (pe.map i64)]) (c:=fun i=>i.1.n=wa.length∧i.2.n=pe.length) t (fun _ h=>h) (fun i hi=>h i.1 i.2 hi.1 hi.2)
theorem FinA.cl{p hp:Nat}{wa pe:List Int}{s z:Slc}(hs:s.n=wa.length)(hz:z.n=pe.length)(h:HP)(H:star [blk p [.pointer (some ⟨hp,0,none⟩),.slice s.a s.n s.c,.slice z.a z.n z.c],SLc s 1 (wa.map i64),SLc z 1 (pe.map i64)] h):FinA p hp wa pe h:=⟨(s,z),⟨hs,hz⟩,H⟩
theorem fin_new(hp:Nat):Gl.Spec ρ Tryz.prog 39 [.pointer (some ⟨hp,0,none⟩)] [] (.one (.l .ptr)) fun r M=>∃p,r=some ⟨p,0,none⟩∧M=[FinA p hp [] []]:=by
 refine Gl.Spec.of (fun Q w h=>F.final.New.calls (some ⟨hp,0,none⟩) h) fun R=> ?_
 unfold F.final.New
 try simp only[lca,lna]
 refine en_brf rfl (en_nw fun b=> ?_)
 refine Tr.nilSL 1 (Tr.nilSL 1 ?_)
 refine Tr.close (M:=[blk b [.pointer (some ⟨hp,0,none⟩),.slice none 0 0,.slice none 0 0],SLc ⟨none,0,0⟩ 1 [],SLc ⟨none,0,0⟩ 1 []]) tks (FinA.cl (p:=b) (hp:=hp) (wa:=[]) (pe:=[]) (s:=⟨none,0,0⟩) (z:=⟨none,0,0⟩) rfl rfl) ?_
 exact en_rets (x:=some ⟨b,0,none⟩) rfl ⟨b,rfl,rfl⟩ tks ens
theorem fin_finals(p hp:Nat)(wa pe:List Int)(hl:wa.length≤2^30):Gl.Spec ρ Tryz.prog 28 [.pointer (some ⟨p,0,none⟩)] [FinA p hp wa pe] RS
  fun r M=>r.n=wa.length∧M=[SLc r 1 (wa.map i64),FinA p hp wa pe]:=by
 refine Gl.Spec.of (fun Q w h=>F.final.Finals.Finals.calls (some ⟨p,0,none⟩) h) fun R=> ?_
 unfold F.final.Finals.Finals
 try simp only[lca,lna]
 refine en_brf rfl (en_nn (FinA.op tk fun s z hs hz=> ?_))
 refine en_ld (k:= .slice) (off:=1) (x:=s) (by rw[fa_mk]) tk rfl ?_
 refine Tr.nlen tk fun _=> ?_
 refine en_call (clone (A:=[SLc s 1 (wa.map i64)]) s wa (Rd.sl .here (by rw[List.length_map];omega)) hl) tks ?_
 rintro r _ ⟨hr,rfl⟩
 try simp only[lca,lna]
 refine Tr.close tks (FinA.cl (p:=p) (hp:=hp) (wa:=wa) (pe:=pe) hs hz) ?_
 exact en_rets (x:=r) rfl ⟨hr,rfl⟩ tks ens
theorem fin_pending(p hp:Nat)(wa pe:List Int)(hl:pe.length≤2^30):Gl.Spec ρ Tryz.prog 29 [.pointer (some ⟨p,0,none⟩)] [FinA p hp wa pe] RS
  fun r M=>r.n=pe.length∧M=[SLc r 1 (pe.map i64),FinA p hp wa pe]:=by
 refine Gl.Spec.of (fun Q w h=>F.final.Finals.Pending.calls (some ⟨p,0,none⟩) h) fun R=> ?_
 unfold F.final.Finals.Pending
 try simp only[lca,lna]
 refine en_brf rfl (en_nn (FinA.op tk fun s z hs hz=> ?_))
 refine en_ld (k:= .slice) (off:=2) (x:=z) (by rw[fa_mk]) tk rfl ?_
 refine en_call (clone (A:=[SLc z 1 (pe.map i64)]) z pe (Rd.sl .here (by rw[List.length_map];omega)) hl) tks ?_
 rintro r _ ⟨hr,rfl⟩
 try simp only[lca,lna]
 refine Tr.close tks (FinA.cl (p:=p) (hp:=hp) (wa:=wa) (pe:=pe) hs hz) ?_
 exact en_rets (x:=r) rfl ⟨hr,rfl⟩ tks ens
namespace Fn
def pend1(x:List Int×List Int)(a:Int):List Int×List Int:=if a∈x.1 then(x.1.eraseIdx (x.1.idxOf a),x.2++[a])else x
def pend(wa pe l:List Int):List Int×List Int:=l.foldl pend1 (wa,pe)
theorem pend1_len(x:List Int×List Int)(a:Int):(pend1 x a).1.length≤x.1.length∧(pend1 x a).2.length≤x.2.length+1:=by
 unfold pend1
 split
 ·refine⟨?_,by simp⟩
  exact List.length_eraseIdx_le _ _
 ·exact⟨Nat.le_refl _,by omega⟩
theorem pend_len:∀(l:List Int) (x:List Int×List Int),(l.foldl pend1 x).1.length≤x.1.length∧(l.foldl pend1 x).2.length≤x.2.length+l.length
 |[],x=>⟨Nat.le_refl _,Nat.le_refl _⟩
 |a::l,x=>by
  have h1:=pend_len l (pend1 x a)
  have h2:=pend1_len x a
  rw[List.foldl_cons,List.length_cons]
  omega
end Fn
theorem int_idx{A:List Asn}(s:Slc)(xs:List Int)(hr:Rd ρ A s 1 (xs.map i64))(hl:xs.length<2^62)(v:Int):Gl.Spec ρ Tryz.prog 150 [.slice s.a s.n s.c,i64 v] A R1
  fun r M=>r=(if v∈xs then((xs.idxOf v:Nat):Int)else -1)∧M=A:=by
 refine Gl.Spec.of (fun Q w h=>F.slices.Index.calls s v h) fun R=> ?_
 unfold F.slices.Index
 have hn:s.n=xs.length:=by have:=hr.1;simpa using this.symm
 refine en_lp (I:=fun n u M=>∃j:Nat,j≤xs.length∧n=xs.length-j∧u=((j:Int),())∧M=A++R∧v∉xs.take j) xs.length ⟨0,by omega,rfl,rfl,rfl,by simp⟩ ?_
 rintro n _ _ ⟨j,hj,rfl,rfl,rfl,hv⟩ X hX
 try simp only[lca,lna]
 refine en_br (fun hc=> ?_) (fun hc=> ?_)
 ·have hj':(j:Int)<(s.n:Nat):=of_decide_eq_true hc
  have hjl:j<xs.length:=by omega
  refine en_getRd hr (Takes.app A R) (by omega) (by omega) ?_
  rw[Int.toNat_natCast]
  have hsp:xs=xs.take j++xs.getD j 0::xs.drop (j+1):=by
   conv=>lhs;rw[←List.take_append_drop j xs,List.drop_eq_getElem_cons hjl]
   rw[List.getD_eq_getElem?_getD,List.getElem?_eq_getElem hjl];rfl
  refine en_br (fun he=> ?_) (fun he=> ?_)
  ·have he':v=xs.getD j 0:=by simpa using he
   have hm:v∈xs:=by rw[hsp];simp[he']
   have hi:xs.idxOf v=j:=by
    conv=>lhs;rw[hsp]
    rw[List.idxOf_append,if_neg hv,←he',List.idxOf_cons_self,List.length_take];omega
   refine en_rets (x:=(j:Int)) rfl ⟨?_,rfl⟩ (Takes.app A R) ens
   rw[if_pos hm,hi]
  ·have he':v≠xs.getD j 0:=by simpa using he
   rw[wrap64 (by omega) (by omega)]
   refine hX (xs.length-(j+1)) _ _ (by omega) ⟨j+1,by omega,rfl,rfl,rfl,?_⟩
   rw[List.take_add_one,List.getElem?_eq_getElem hjl]
   rw[List.getD_eq_getElem?_getD,List.getElem?_eq_getElem hjl]at he'
   intro hm
   rcases List.mem_append.mp hm with hm|hm
   ·exact hv hm
   ·exact he' (List.mem_singleton.mp hm)
 ·have hj':¬(j:Int)<(s.n:Nat):=of_decide_eq_false hc
  rw[List.take_of_length_le (by omega)]at hv
  refine en_rets (x:=(-1:Int)) rfl ⟨?_,rfl⟩ (Takes.app A R) ens
  rw[if_neg hv]
theorem fin_pend(p hp:Nat)(wa pe:List Int)(z:Slc)(l:List Int)(ro:RoS ρ z 1 (l.map i64))(hl:wa.length+pe.length+l.length<2^40):Gl.Spec ρ Tryz.prog 112 [.pointer (some ⟨p,0,none⟩),.slice z.a z.n z.c] [FinA p hp wa pe] (.many [])
  fun _ M=>M=[FinA p hp (Fn.pend wa pe l).1 (Fn.pend wa pe l).2]:=by
 refine Gl.Spec.of (fun Q w h=>F.final.Finals.Pend.calls (some ⟨p,0,none⟩) z h) fun R=> ?_
 unfold F.final.Finals.Pend
 have hz:z.n=l.length:=by have:=ro.1;rw[List.length_map]at this;omega
 refine en_brf rfl ?_
 refine en_lp (I:=fun m s M=>∃j:Nat,j≤l.length∧m=l.length-j∧s=((j:Int),())∧M=FinA p hp (Fn.pend wa pe (l.take j)).1 (Fn.pend wa pe (l.take j)).2::R) l.length ⟨0,by omega,rfl,rfl,rfl⟩ ?_
 rintro m _ _ ⟨j,hj,rfl,rfl,rfl⟩ X hX
 try simp only[lca,lna]
 refine en_br (fun hc=> ?_) (fun hc=> ?_)
 ·have hj':(j:Int)<(z.n:Nat):=of_decide_eq_true hc
  have hjl:j<l.length:=by omega
  refine en_ixRo ro (by omega) hj' fun a0 ha=> ?_
  refine en_ldRo (j:=j) (x:=l.getD j 0) ha ro (by rintro b o rfl;rw[fa_mk];simp) (getD_map hjl) ?_
  have hq:=Fn.pend_len (l.take j) (wa,pe)
  have ht:=List.length_take_le j l
  have es:Fn.pend wa pe (l.take (j+1))=Fn.pend1 (Fn.pend wa pe (l.take j)) (l.getD j 0):=by
   unfold Fn.pend
   rw[take_succ_getD 0 hjl,List.foldl_append];rfl
  have hlt:(l.take j).length≤l.length:=by rw[List.length_take];omega
  change(Fn.pend wa pe (l.take j)).1.length≤wa.length∧(Fn.pend wa pe (l.take j)).2.length≤pe.length+(l.take j).length at hq
  generalize Fn.pend wa pe (l.take j)=q at*
  obtain⟨wa',pe'⟩:=q
  dsimp only at*
  rw[wrap64 (n:=(j:Int)+1) (by omega) (by omega)]
  refine en_nn (FinA.op tk fun s y hs hy=> ?_)
  refine en_ld (k:= .slice) (off:=1) (x:=s) (by rw[fa_mk]) tk rfl ?_
  refine en_call (int_idx (A:=[SLc s 1 (wa'.map i64)]) s wa' (Rd.sl .here (by rw[List.length_map];omega)) (by omega) (l.getD j 0)) tks ?_
  rintro r _ ⟨rfl,rfl⟩
  try simp only[lca,lna]
  by_cases hm:l.getD j 0∈wa'
  ·rw[if_pos hm]
   have hk:wa'.idxOf (l.getD j 0)<wa'.length:=List.idxOf_lt_length_of_mem hm
   refine en_brt (by rw[decide_eq_true_eq];omega) (en_nn ?_)
   refine en_ld (k:= .slice) (off:=1) (x:=s) (by rw[fa_mk]) tk rfl ?_
   rw[wrap64 (by omega) (by omega)]
   refine en_call (sl_delete s wa' _ hk (by omega)) tks ?_
   rintro r _ ⟨hr,rfl⟩
   try simp only[lca,lna]
   refine en_nn ?_
   refine en_st (off:=1) (by rw[fa_mk]) tk (by simp) rfl (en_nn ?_)
   have e:setL [.pointer (some ⟨hp,0,none⟩),.slice s.a s.n s.c,.slice y.a y.n y.c] 1 [.slice r.a r.n r.c]=[.pointer (some ⟨hp,0,none⟩),.slice r.a r.n r.c,.slice y.a y.n y.c]:=rfl
   rw[e]
   refine en_ld (k:= .slice) (off:=2) (x:=y) (by rw[fa_mk]) tk rfl ?_
   refine en_appI appInt tk (by omega) fun v hv=> ?_
   refine en_nn ?_
   refine en_st (off:=2) (by rw[fa_mk]) tk (by simp) rfl ?_
   have e:setL [.pointer (some ⟨hp,0,none⟩),.slice r.a r.n r.c,.slice y.a y.n y.c] 2 [.slice v.a v.n v.c]=[.pointer (some ⟨hp,0,none⟩),.slice r.a r.n r.c,.slice v.a v.n v.c]:=rfl
   rw[e]
   have e1:Fn.pend1 (wa',pe') (l.getD j 0)=(wa'.eraseIdx (wa'.idxOf (l.getD j 0)),pe'++[l.getD j 0]):=if_pos hm
   rw[e1]at es
   refine Tr.close tks (FinA.cl (p:=p) (hp:=hp) (wa:=wa'.eraseIdx (wa'.idxOf (l.getD j 0))) (pe:=pe'++[l.getD j 0]) (by rw[hr,List.length_eraseIdx,if_pos hk]) (by rw[hv,List.length_append];rfl)) ?_
   exact hX (l.length-(j+1)) _ _ (by omega) ⟨j+1,by omega,rfl,rfl,by rw[es]⟩
  ·rw[if_neg hm]
   refine en_brf rfl ?_
   have e1:Fn.pend1 (wa',pe') (l.getD j 0)=(wa',pe'):=if_neg hm
   rw[e1]at es
   refine Tr.close tks (FinA.cl (p:=p) (hp:=hp) (wa:=wa') (pe:=pe') hs hy) ?_
   exact hX (l.length-(j+1)) _ _ (by omega) ⟨j+1,by omega,rfl,rfl,by rw[es]⟩
 ·have hj':¬(j:Int)<(z.n:Nat):=of_decide_eq_false hc
  rw[List.take_of_length_le (by omega)]
  exact en_rets (x:=()) rfl rfl tks ens
end Go.Proofs.YtfepdmpplahloaaGreat
