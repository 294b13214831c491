/- Finalizers. -/
import Derived.Test.YtfepdmpplahloaaGreatGsSl
set_option linter.unusedSimpArgs false
set_option linter.unusedVariables false
namespace Go.Proofs.YtfepdmpplahloaaGreat
open Go Go.Gl
variable{ρ0 ρ:FR}{L L':List aA}{Post:Value→List aA→Prop}{T:Tree}
def dw(p hp:Nat)(wa pe:List Int):aA:=fun h=>∃i:ay×ay,(i.1.n=wa.length∧i.2.n=pe.length)∧star [aw p [.pointer (some ⟨hp,0,none⟩),.slice i.1.a i.1.n i.1.c,.slice i.2.a i.2.n i.2.c],aE i.1 1 (wa.map i64),aE i.2 1 (pe.map i64)] h
theorem dw.op{p hp:Nat}{wa pe:List Int}(t:Take L (dw p hp wa pe) L')(h:∀s z:ay,s.n=wa.length→z.n=pe.length→Tr ρ0 ρ (aw p [.pointer (some ⟨hp,0,none⟩),.slice s.a s.n s.c,.slice z.a z.n z.c]::aE s 1 (wa.map i64)::aE z 1 (pe.map i64)::L') T Post):Tr ρ0 ρ L T Post:=
 Tr.gh (M:=fun i:ay×ay=>[aw p [.pointer (some ⟨hp,0,none⟩),.slice i.1.a i.1.n i.1.c,.slice i.2.a i.2.n i.2.c],aE i.1 1 (wa.map i64),aE i.2 1 (pe.map i64)]) (c:=fun i=>i.1.n=wa.length∧i.2.n=pe.length) t (fun _ h=>h) (fun i hi=>h i.1 i.2 hi.1 hi.2)
theorem dw.cl{p hp:Nat}{wa pe:List Int}{s z:ay}(hs:s.n=wa.length)(hz:z.n=pe.length)(h:HP)(H:star [aw p [.pointer (some ⟨hp,0,none⟩),.slice s.a s.n s.c,.slice z.a z.n z.c],aE s 1 (wa.map i64),aE z 1 (pe.map i64)] h):dw p hp wa pe h:=⟨(s,z),⟨hs,hz⟩,H⟩
theorem B2(hp:Nat):Gl.Spec ρ Tryz.prog 39 [.pointer (some ⟨hp,0,none⟩)] [] (.one (.l .ptr)) fun r M=>∃p,r=some ⟨p,0,none⟩∧M=[dw p hp [] []]:=by
 refine Gl.Spec.of (fun Q w h=>F.final.dc.calls (some ⟨hp,0,none⟩) h) fun R=> ?_
 unfold F.final.dc
 try simp only[aq,al]
 refine ak rfl (ax fun b=> ?_)
 refine Tr.cq 1 (Tr.cq 1 ?_)
 refine Tr.close (M:=[aw b [.pointer (some ⟨hp,0,none⟩),.slice none 0 0,.slice none 0 0],aE ⟨none,0,0⟩ 1 [],aE ⟨none,0,0⟩ 1 []]) ag (dw.cl (p:=b) (hp:=hp) (wa:=[]) (pe:=[]) (s:=⟨none,0,0⟩) (z:=⟨none,0,0⟩) rfl rfl) ?_
 exact aa (x:=some ⟨b,0,none⟩) rfl ⟨b,rfl,rfl⟩ ag aB
theorem xJ(p hp:Nat)(S:aD)(cs:List aS)(hw:aO S cs)(wa pe:List Int)(hl:wa.length<2^40)(a:Int):Gl.Spec ρ Tryz.prog 96 [.pointer (some ⟨p,0,none⟩),i64 a] [dw p hp wa pe,au hp S cs] R1
  fun r M=>r=(Ob.final S a).1∧M=[dw p hp (if(Ob.final S a).1=0 then wa++[a]else wa) pe,au hp (Ob.final S a).2 cs]:=by
 refine Gl.Spec.of (fun Q w h=>F.final.bM.wq.calls (some ⟨p,0,none⟩) a h) fun R=> ?_
 unfold F.final.bM.wq
 try simp only[aq,al]
 refine ak rfl (ah (dw.op tk fun s z hs hz=> ?_))
 refine ai (k:= .ptr) (off:=0) (x:=some ⟨hp,0,none⟩) (by rw[af]) tk rfl ?_
 refine ae (sy hp S cs hw a) ag ?_
 rintro x' M ⟨rfl,rfl⟩
 try simp only[aq,al]
 refine aj (fun h=> ?_) (fun h=> ?_)
 ·have h':(Ob.final S a).1≠0:=by simpa using h
  refine Tr.close ag (dw.cl (p:=p) (hp:=hp) (wa:=wa) (pe:=pe) hs hz) ?_
  rw[if_neg h']
  exact aa (x:=(Ob.final S a).1) rfl ⟨rfl,rfl⟩ ag aB
 ·have h':(Ob.final S a).1=0:=by simpa using h
  rw[if_pos h',h']
  refine ah ?_
  refine ai (k:= .slice) (off:=1) (x:=s) (by rw[af]) tk rfl ?_
  refine gw ca tk hl fun r hr=> ?_
  refine ah ?_
  refine aL (off:=1) (by rw[af]) tk (by simp) rfl ?_
  have e:bN [.pointer (some ⟨hp,0,none⟩),.slice s.a s.n s.c,.slice z.a z.n z.c] 1 [.slice r.a r.n r.c]=[.pointer (some ⟨hp,0,none⟩),.slice r.a r.n r.c,.slice z.a z.n z.c]:=rfl
  rw[e]
  refine Tr.close ag (dw.cl (p:=p) (hp:=hp) (wa:=wa++[a]) (pe:=pe) (by rw[hr,List.length_append];rfl) hz) ?_
  exact aa (x:=(0:Int)) rfl ⟨rfl,rfl⟩ ag aB
theorem vp(p hp:Nat)(wa pe:List Int)(hl:wa.length≤2^30):Gl.Spec ρ Tryz.prog 28 [.pointer (some ⟨p,0,none⟩)] [dw p hp wa pe] RS
  fun r M=>r.n=wa.length∧M=[aE r 1 (wa.map i64),dw p hp wa pe]:=by
 refine Gl.Spec.of (fun Q w h=>F.final.bM.bM.calls (some ⟨p,0,none⟩) h) fun R=> ?_
 unfold F.final.bM.bM
 try simp only[aq,al]
 refine ak rfl (ah (dw.op tk fun s z hs hz=> ?_))
 refine ai (k:= .slice) (off:=1) (x:=s) (by rw[af]) tk rfl ?_
 refine Tr.jZ tk fun _=> ?_
 refine ae (clone (A:=[aE s 1 (wa.map i64)]) s wa (Rd.sl .here (by rw[List.length_map];omega)) hl) ag ?_
 rintro r _ ⟨hr,rfl⟩
 try simp only[aq,al]
 refine Tr.close ag (dw.cl (p:=p) (hp:=hp) (wa:=wa) (pe:=pe) hs hz) ?_
 exact aa (x:=r) rfl ⟨hr,rfl⟩ ag aB
theorem gW(p hp:Nat)(wa pe:List Int)(hl:pe.length≤2^30):Gl.Spec ρ Tryz.prog 29 [.pointer (some ⟨p,0,none⟩)] [dw p hp wa pe] RS
  fun r M=>r.n=pe.length∧M=[aE r 1 (pe.map i64),dw p hp wa pe]:=by
 refine Gl.Spec.of (fun Q w h=>F.final.bM.oR.calls (some ⟨p,0,none⟩) h) fun R=> ?_
 unfold F.final.bM.oR
 try simp only[aq,al]
 refine ak rfl (ah (dw.op tk fun s z hs hz=> ?_))
 refine ai (k:= .slice) (off:=2) (x:=z) (by rw[af]) tk rfl ?_
 refine ae (clone (A:=[aE z 1 (pe.map i64)]) z pe (Rd.sl .here (by rw[List.length_map];omega)) hl) ag ?_
 rintro r _ ⟨hr,rfl⟩
 try simp only[aq,al]
 refine Tr.close ag (dw.cl (p:=p) (hp:=hp) (wa:=wa) (pe:=pe) hs hz) ?_
 exact aa (x:=r) rfl ⟨hr,rfl⟩ ag aB
namespace Fn
def dT(pe:List Int)(i:Int):Int×Int:=if 0≤i∧i<pe.length then(pe.getD i.toNat 0,0)else(0,1)
def dN(pe:List Int)(i:Int):List Int:=if 0≤i∧i<pe.length then pe.eraseIdx i.toNat else pe
def bV(x:List Int×List Int)(a:Int):List Int×List Int:=if a∈x.1 then(x.1.eraseIdx (x.1.idxOf a),x.2++[a])else x
def jK(wa pe l:List Int):List Int×List Int:=l.foldl bV (wa,pe)
theorem xI(x:List Int×List Int)(a:Int):(bV x a).1.length≤x.1.length∧(bV x a).2.length≤x.2.length+1:=by
 unfold bV
 split
 ·refine⟨?_,by simp⟩
  exact List.length_eraseIdx_le _ _
 ·exact⟨Nat.le_refl _,by omega⟩
theorem iz:∀(l:List Int) (x:List Int×List Int),(l.foldl bV x).1.length≤x.1.length∧(l.foldl bV x).2.length≤x.2.length+l.length
 |[],x=>⟨Nat.le_refl _,Nat.le_refl _⟩
 |a::l,x=>by
  have h1:=iz l (bV x a)
  have h2:=xI x a
  rw[List.foldl_cons,List.length_cons]
  omega
end Fn
theorem tA(p hp:Nat)(wa pe:List Int)(hl:pe.length<2^40)(i:Int):Gl.Spec ρ Tryz.prog 97 [.pointer (some ⟨p,0,none⟩),i64 i] [dw p hp wa pe] P2
  fun r M=>r=((Fn.dT pe i).1,(Fn.dT pe i).2,())∧M=[dw p hp wa (Fn.dN pe i)]:=by
 refine Gl.Spec.of (fun Q w h=>F.final.bM.Take.calls (some ⟨p,0,none⟩) i h) fun R=> ?_
 unfold F.final.bM.Take
 try simp only[aq,al]
 refine ak rfl ?_
 have no:¬(0≤i∧i<pe.length)→Fn.dT pe i=(0,1)∧Fn.dN pe i=pe:=fun h=>⟨if_neg h,if_neg h⟩
 refine aj (fun h=> ?_) (fun h=> ?_)
 ·have h':i<0:=of_decide_eq_true h
  obtain⟨e1,e2⟩:=no (by omega)
  rw[e1,e2]
  exact aa (x:=((0:Int),(1:Int),())) rfl ⟨rfl,rfl⟩ ag aB
 have h':¬i<0:=of_decide_eq_false h
 refine ah (dw.op tk fun s z hs hz=> ?_)
 refine ai (k:= .slice) (off:=2) (x:=z) (by rw[af]) tk rfl ?_
 refine aj (fun h2=> ?_) (fun h2=> ?_)
 ·have h2':i≥(z.n:Nat):=of_decide_eq_true h2
  obtain⟨e1,e2⟩:=no (by omega)
  refine Tr.close ag (dw.cl (p:=p) (hp:=hp) (wa:=wa) (pe:=pe) hs hz) ?_
  rw[e1,e2]
  exact aa (x:=((0:Int),(1:Int),())) rfl ⟨rfl,rfl⟩ ag aB
 have h2':¬i≥(z.n:Nat):=of_decide_eq_false h2
 have hin:0≤i∧i<pe.length:=by omega
 obtain⟨k,rfl⟩:∃k:Nat,i=k:=⟨i.toNat,by omega⟩
 have hk:k<pe.length:=by omega
 have e1:Fn.dT pe k=(pe.getD k 0,0):=if_pos hin
 have e2:Fn.dN pe k=pe.eraseIdx k:=if_pos hin
 rw[e1,e2]
 refine ah ?_
 refine ai (k:= .slice) (off:=2) (x:=z) (by rw[af]) tk rfl ?_
 refine cn tk (by omega) (by omega) fun a0 ha=> ?_
 refine cT (j:=k) (x:=pe.getD k 0) ha tk (by rintro b o rfl;rw[af];simp) (getD_map hk) ?_
 refine ah ?_
 refine ai (k:= .slice) (off:=2) (x:=z) (by rw[af]) tk rfl ?_
 rw[wrap64 (by omega) (by omega)]
 refine ae (qR z pe k hk hl) ag ?_
 rintro r _ ⟨hr,rfl⟩
 try simp only[aq,al]
 refine ah ?_
 refine aL (off:=2) (by rw[af]) tk (by simp) rfl ?_
 have e:bN [.pointer (some ⟨hp,0,none⟩),.slice s.a s.n s.c,.slice z.a z.n z.c] 2 [.slice r.a r.n r.c]=[.pointer (some ⟨hp,0,none⟩),.slice s.a s.n s.c,.slice r.a r.n r.c]:=rfl
 rw[e]
 refine Tr.close ag (dw.cl (p:=p) (hp:=hp) (wa:=wa) (pe:=pe.eraseIdx k) hs (by rw[hr,List.length_eraseIdx,if_pos hk])) ?_
 exact aa (x:=(pe.getD k 0,(0:Int),())) rfl ⟨rfl,rfl⟩ ag aB
theorem BF{A:List aA}(s:ay)(xs:List Int)(hr:Rd ρ A s 1 (xs.map i64))(hl:xs.length<2^62)(v:Int):Gl.Spec ρ Tryz.prog 150 [.slice s.a s.n s.c,i64 v] A R1
  fun r M=>r=(if v∈xs then((xs.idxOf v:Nat):Int)else -1)∧M=A:=by
 refine Gl.Spec.of (fun Q w h=>F.av.Index.calls s v h) fun R=> ?_
 unfold F.av.Index
 have hn:s.n=xs.length:=by have:=hr.1;simpa using this.symm
 refine aP (I:=fun n u M=>∃j:Nat,j≤xs.length∧n=xs.length-j∧u=((j:Int),())∧M=A++R∧v∉xs.take j) xs.length ⟨0,by omega,rfl,rfl,rfl,by simp⟩ ?_
 rintro n _ _ ⟨j,hj,rfl,rfl,rfl,hv⟩ X hX
 try simp only[aq,al]
 refine aj (fun hc=> ?_) (fun hc=> ?_)
 ·have hj':(j:Int)<(s.n:Nat):=of_decide_eq_true hc
  have hjl:j<xs.length:=by omega
  refine iP hr (aI.app A R) (by omega) (by omega) ?_
  rw[Int.toNat_natCast]
  have hsp:xs=xs.take j++xs.getD j 0::xs.drop (j+1):=by
   conv=>lhs;rw[←List.take_append_drop j xs,List.drop_eq_getElem_cons hjl]
   rw[List.getD_eq_getElem?_getD,List.getElem?_eq_getElem hjl];rfl
  refine aj (fun he=> ?_) (fun he=> ?_)
  ·have he':v=xs.getD j 0:=by simpa using he
   have hm:v∈xs:=by rw[hsp];simp[he']
   have hi:xs.idxOf v=j:=by
    conv=>lhs;rw[hsp]
    rw[List.idxOf_append,if_neg hv,←he',List.idxOf_cons_self,List.length_take];omega
   refine aa (x:=(j:Int)) rfl ⟨?_,rfl⟩ (aI.app A R) aB
   rw[if_pos hm,hi]
  ·have he':v≠xs.getD j 0:=by simpa using he
   rw[wrap64 (by omega) (by omega)]
   refine hX (xs.length-(j+1)) _ _ (by omega) ⟨j+1,by omega,rfl,rfl,rfl,?_⟩
   rw[List.take_add_one,List.getElem?_eq_getElem hjl]
   rw[List.getD_eq_getElem?_getD,List.getElem?_eq_getElem hjl]at he'
   intro hm
   rcases List.mem_append.mp hm with hm|hm
   ·exact hv hm
   ·exact he' (List.mem_singleton.mp hm)
 ·have hj':¬(j:Int)<(s.n:Nat):=of_decide_eq_false hc
  rw[List.take_of_length_le (by omega)]at hv
  refine aa (x:=(-1:Int)) rfl ⟨?_,rfl⟩ (aI.app A R) aB
  rw[if_neg hv]
theorem Ac(p hp:Nat)(wa pe:List Int)(z:ay)(l:List Int)(ro:eX ρ z 1 (l.map i64))(hl:wa.length+pe.length+l.length<2^40):Gl.Spec ρ Tryz.prog 112 [.pointer (some ⟨p,0,none⟩),.slice z.a z.n z.c] [dw p hp wa pe] (.many [])
  fun _ M=>M=[dw p hp (Fn.jK wa pe l).1 (Fn.jK wa pe l).2]:=by
 refine Gl.Spec.of (fun Q w h=>F.final.bM.xt.calls (some ⟨p,0,none⟩) z h) fun R=> ?_
 unfold F.final.bM.xt
 have hz:z.n=l.length:=by have:=ro.1;rw[List.length_map]at this;omega
 refine ak rfl ?_
 refine aP (I:=fun m s M=>∃j:Nat,j≤l.length∧m=l.length-j∧s=((j:Int),())∧M=dw p hp (Fn.jK wa pe (l.take j)).1 (Fn.jK wa pe (l.take j)).2::R) l.length ⟨0,by omega,rfl,rfl,rfl⟩ ?_
 rintro m _ _ ⟨j,hj,rfl,rfl,rfl⟩ X hX
 try simp only[aq,al]
 refine aj (fun hc=> ?_) (fun hc=> ?_)
 ·have hj':(j:Int)<(z.n:Nat):=of_decide_eq_true hc
  have hjl:j<l.length:=by omega
  refine bJ ro (by omega) hj' fun a0 ha=> ?_
  refine bZ (j:=j) (x:=l.getD j 0) ha ro (by rintro b o rfl;rw[af];simp) (getD_map hjl) ?_
  have hq:=Fn.iz (l.take j) (wa,pe)
  have ht:=List.length_take_le j l
  have es:Fn.jK wa pe (l.take (j+1))=Fn.bV (Fn.jK wa pe (l.take j)) (l.getD j 0):=by
   unfold Fn.jK
   rw[aJ 0 hjl,List.foldl_append];rfl
  have hlt:(l.take j).length≤l.length:=by rw[List.length_take];omega
  change(Fn.jK wa pe (l.take j)).1.length≤wa.length∧(Fn.jK wa pe (l.take j)).2.length≤pe.length+(l.take j).length at hq
  generalize Fn.jK wa pe (l.take j)=q at*
  obtain⟨wa',pe'⟩:=q
  dsimp only at*
  rw[wrap64 (n:=(j:Int)+1) (by omega) (by omega)]
  refine ah (dw.op tk fun s y hs hy=> ?_)
  refine ai (k:= .slice) (off:=1) (x:=s) (by rw[af]) tk rfl ?_
  refine ae (BF (A:=[aE s 1 (wa'.map i64)]) s wa' (Rd.sl .here (by rw[List.length_map];omega)) (by omega) (l.getD j 0)) ag ?_
  rintro r _ ⟨rfl,rfl⟩
  try simp only[aq,al]
  by_cases hm:l.getD j 0∈wa'
  ·rw[if_pos hm]
   have hk:wa'.idxOf (l.getD j 0)<wa'.length:=List.idxOf_lt_length_of_mem hm
   refine aH (by rw[decide_eq_true_eq];omega) (ah ?_)
   refine ai (k:= .slice) (off:=1) (x:=s) (by rw[af]) tk rfl ?_
   rw[wrap64 (by omega) (by omega)]
   refine ae (qR s wa' _ hk (by omega)) ag ?_
   rintro r _ ⟨hr,rfl⟩
   try simp only[aq,al]
   refine ah ?_
   refine aL (off:=1) (by rw[af]) tk (by simp) rfl (ah ?_)
   have e:bN [.pointer (some ⟨hp,0,none⟩),.slice s.a s.n s.c,.slice y.a y.n y.c] 1 [.slice r.a r.n r.c]=[.pointer (some ⟨hp,0,none⟩),.slice r.a r.n r.c,.slice y.a y.n y.c]:=rfl
   rw[e]
   refine ai (k:= .slice) (off:=2) (x:=y) (by rw[af]) tk rfl ?_
   refine gw ca tk (by omega) fun v hv=> ?_
   refine ah ?_
   refine aL (off:=2) (by rw[af]) tk (by simp) rfl ?_
   have e:bN [.pointer (some ⟨hp,0,none⟩),.slice r.a r.n r.c,.slice y.a y.n y.c] 2 [.slice v.a v.n v.c]=[.pointer (some ⟨hp,0,none⟩),.slice r.a r.n r.c,.slice v.a v.n v.c]:=rfl
   rw[e]
   have e1:Fn.bV (wa',pe') (l.getD j 0)=(wa'.eraseIdx (wa'.idxOf (l.getD j 0)),pe'++[l.getD j 0]):=if_pos hm
   rw[e1]at es
   refine Tr.close ag (dw.cl (p:=p) (hp:=hp) (wa:=wa'.eraseIdx (wa'.idxOf (l.getD j 0))) (pe:=pe'++[l.getD j 0]) (by rw[hr,List.length_eraseIdx,if_pos hk]) (by rw[hv,List.length_append];rfl)) ?_
   exact hX (l.length-(j+1)) _ _ (by omega) ⟨j+1,by omega,rfl,rfl,by rw[es]⟩
  ·rw[if_neg hm]
   refine ak rfl ?_
   have e1:Fn.bV (wa',pe') (l.getD j 0)=(wa',pe'):=if_neg hm
   rw[e1]at es
   refine Tr.close ag (dw.cl (p:=p) (hp:=hp) (wa:=wa') (pe:=pe') hs hy) ?_
   exact hX (l.length-(j+1)) _ _ (by omega) ⟨j+1,by omega,rfl,rfl,by rw[es]⟩
 ·have hj':¬(j:Int)<(z.n:Nat):=of_decide_eq_false hc
  rw[List.take_of_length_le (by omega)]
  exact aa (x:=()) rfl rfl ag aB
end Go.Proofs.YtfepdmpplahloaaGreat
