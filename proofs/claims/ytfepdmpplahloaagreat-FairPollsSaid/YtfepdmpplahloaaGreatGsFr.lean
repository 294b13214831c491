/- Fair rounds: what the program does. -/
import Derived.Test.YtfepdmpplahloaaGreatGsTl24
import Derived.Test.YtfepdmpplahloaaGreatGsTt
import Derived.Test.YtfepdmpplahloaaGreatGsBo
set_option linter.unusedSimpArgs false
set_option linter.unusedVariables false
namespace Go.Proofs.YtfepdmpplahloaaGreat
open Go Go.Gl
variable{ρ0 ρ:FR}{L L':List aA}{Post:Value→List aA→Prop}{T:Tree}
namespace Fr
theorem finish(i:Pl)(x:Rt)(hp:x.pe.length≤2^30):Gl.Spec ρ Tryz.prog 69 [.agg #[.pointer (some ⟨i.p,0,none⟩)]] (i.A x) (.many []) fun r M=>M=i.A {x with pe:=[]}:=by
 refine Gl.Spec.of (fun Q w h=>F.fair.round.finish.calls (some ⟨i.p,0,none⟩,()) h) fun R=> ?_
 unfold F.fair.round.finish
 try simp only[aq,al]
 refine ax fun b1=> ?_
 refine aP (I:=fun m u M=>∃pe:List Int,pe.length≤2^30∧m=pe.length∧M=aw b1 [.pointer (some ⟨i.p,0,none⟩)]::(i.A {x with pe:=pe}++R)) x.pe.length ⟨x.pe,hp,rfl,rfl⟩ ?_
 rintro m _ _ ⟨pe,hl,rfl,rfl⟩ X hX
 refine ai (k:= .ptr) (b:=b1) (off:=0) (x:=some ⟨i.p,0,none⟩) (by rw[af]) tk rfl ?_
 refine ah ?_
 refine ai (k:= .ptr) (b:=i.p) (off:=3) (x:=some ⟨i.f,0,none⟩) (by rw[af]) tk rfl ?_
 refine ae (gW i.f i.b x.wa pe hl) ag ?_
 rintro r _ ⟨hr,rfl⟩
 try simp only[aq,al]
 refine Tr.drop (A:=aE r 1 (pe.map i64)) tk ?_
 cases pe with
 |nil=>
  refine ak (by rw[hr];rfl) ?_
  refine Tr.drop (A:=aw b1 _) tk ?_
  exact aa (r:= .many []) (x:=()) rfl rfl ag aB
 |cons a t=>
  rw[List.length_cons]at hr hl
  refine aH (by rw[hr];exact decide_eq_true (by omega)) ?_
  refine ai (k:= .ptr) (b:=b1) (off:=0) (x:=some ⟨i.p,0,none⟩) (by rw[af]) tk rfl ?_
  refine ah ?_
  refine ai (k:= .ptr) (b:=i.p) (off:=3) (x:=some ⟨i.f,0,none⟩) (by rw[af]) tk rfl ?_
  have e1:Fn.dT (a::t) 0=(a,0):=by unfold Fn.dT;rw[if_pos ⟨by decide,by rw[List.length_cons];omega⟩];rfl
  have e2:Fn.dN (a::t) 0=t:=by unfold Fn.dN;rw[if_pos ⟨by decide,by rw[List.length_cons];omega⟩];rfl
  refine ae (tA i.f i.b x.wa (a::t) (by rw[List.length_cons];omega) 0) ag ?_
  rw[e1,e2]
  rintro _ _ ⟨rfl,rfl⟩
  try simp only[aq,al]
  refine ak rfl ?_
  refine Tr.perm (aI.perm (M:=aw b1 [.pointer (some ⟨i.p,0,none⟩)]::i.A {x with pe:=t}) ag) ?_
  exact hX t.length _ _ (by rw[List.length_cons];omega) ⟨t,by omega,rfl,rfl⟩
theorem C3(S:aD)(l:List Int)(a:Int):un S (l++[a])=(Ob.put (un S l) a 2 0).2:=by unfold un;rw[List.foldl_append];rfl
theorem DC(S:aD)(l l':List Int):un S (l++l')=un (un S l) l':=by unfold un;rw[List.foldl_append]
def sr(S:aD)(a:Int):Int:=(Ob.get S a 4).1
theorem polled(i:Pl)(x:Rt){N:Int}(I:x.Inv N)(k:Nat)(hk:k<x.rows.length):Gl.Spec ρ Tryz.prog 70 [.agg #[.pointer (some ⟨i.p,0,none⟩)],i64 k] (i.A x) RS
  fun r M=>r.n=x.rows[k].length∧({x with S:=un x.S x.rows[k],rows:=x.rows.set k []}:Rt).Inv N∧M=aE r 1 ((x.rows[k].map (sr x.S)).map i64)::i.A {x with S:=un x.S x.rows[k],rows:=x.rows.set k []}:=by
 refine Gl.Spec.of (fun Q w h=>F.fair.round.polled.calls (some ⟨i.p,0,none⟩,()) k h) fun R=> ?_
 unfold F.fair.round.polled
 try simp only[aq,al]
 refine ax fun b1=>Tr.cq 1 ?_
 have hfew:=(QI.yH I.w.hw I.w.q).len _ (List.getElem_mem hk)
 have hget:∀l:List Int,∀a∈x.rows[k],(Ob.get (un x.S l) a 4).1=sr x.S a:=fun l a ha=>by
  obtain⟨hd,hh,h4⟩:=aM (I.w.q.qr a (gI hk ha)).1
  rw[nm l I.w.hw hh (by decide) (by rw[dm I.w.hw hh h4];decide),if_neg (fun g=>absurd g.2 (by decide))];rfl
 refine aP (I:=fun m u M=>∃(done rest:List Int) (s:ay),done++rest=x.rows[k]∧m=rest.length∧u=(s,())∧s.n=done.length∧Wl (un x.S done) x.cs (x.rows.set k rest) x.aU x.wa x.pe∧
  M=aE s 1 ((done.map (sr x.S)).map i64)::aw b1 [.pointer (some ⟨i.p,0,none⟩)]::(i.A {x with S:=un x.S done,rows:=x.rows.set k rest}++R)) x.rows[k].length ⟨[],x.rows[k],_,rfl,rfl,rfl,rfl,by rw[List.set_getElem_self];exact I.w,by rw[List.set_getElem_self];rfl⟩ ?_
 rintro m _ _ ⟨done,rest,s,hdr,rfl,rfl,hs,W,rfl⟩ X hX
 have hkl:k<(x.rows.set k rest).length:=by rw[List.length_set];exact hk
 obtain⟨r1,_,r3⟩:=yL hkl
 rw[List.getElem_set_self]at r3
 dsimp only
 refine ai (k:= .ptr) (b:=b1) (off:=0) (x:=some ⟨i.p,0,none⟩) (by rw[af]) tk rfl ?_
 refine ah ?_
 refine ai (k:= .ptr) (b:=i.p) (off:=0) (x:=some ⟨i.r,0,none⟩) (by rw[af]) tk rfl ?_
 refine ah (uY (p:=i.r) (hp:=i.b) (rows:=x.rows.set k rest) (n:=x.aU) (by rw[af]) tk fun q=> ?_)
 refine ae (tc q i.b (un x.S done) x.cs W.hw (x.rows.set k rest) W.q.lk k) ag ?_
 have eR:Qu.hU (x.rows.set k rest) k=(rest.headD 0,0):=by unfold Qu.hU;rw[if_pos r1,r3]
 have eQ:Qu.dP (x.rows.set k rest) k=x.rows.set k rest.tail:=by unfold Qu.dP;rw[if_pos r1,r3,Int.toNat_natCast,List.set_set]
 have W2:=W.eU (k:Int)
 rw[eR,eQ]
 rw[eQ]at W2
 cases rest with
 |nil=>
  have eS:Qu.cp (un x.S done) (x.rows.set k []) k=un x.S done:=by unfold Qu.cp;rw[if_neg (fun g=>g.2 r3)]
  rw[eS]
  rintro _ _ ⟨rfl,rfl⟩
  try simp only[aq,al]
  refine ak rfl (aH rfl ?_)
  refine Tr.close ag (cL.cl (p:=i.r) (q:=q) (hp:=i.b) (rows:=x.rows.set k []) (n:=x.aU)) ?_
  refine Tr.drop (A:=aw b1 _) tk ?_
  rw[List.append_nil]at hdr
  subst hdr
  exact aa (x:=s) rfl ⟨hs,{I with w:=W},rfl⟩ ag aB
 |cons a t=>
  have ham:a∈x.rows[k]:=by rw[←hdr];simp
  have ha0:a≠0:=(I.w.q.lk _ (List.getElem_mem hk)).ne a ham
  have eS:Qu.cp (un x.S done) (x.rows.set k (a::t)) k=un x.S (done++[a]):=by unfold Qu.cp;rw[if_pos ⟨r1,by rw[r3];simp⟩,r3,C3];rfl
  rw[eS]at W2⊢
  rintro _ _ ⟨rfl,rfl⟩
  try simp only[aq,al]
  refine ak rfl (ak (by simpa using ha0) ?_)
  refine Tr.close ag (cL.cl (p:=i.r) (q:=q) (hp:=i.b) (rows:=x.rows.set k t) (n:=x.aU)) ?_
  refine ai (k:= .ptr) (b:=b1) (off:=0) (x:=some ⟨i.p,0,none⟩) (by rw[af]) tk rfl ?_
  refine ah ?_
  refine ai (k:= .ptr) (b:=i.p) (off:=0) (x:=some ⟨i.r,0,none⟩) (by rw[af]) tk rfl ?_
  refine ah (fJ (p:=i.r) (hp:=i.b) (rows:=x.rows.set k t) (n:=x.aU) (by rw[af]) tk ?_)
  refine ae (dg i.b (un x.S (done++[a])) x.cs W2.hw a 4) ag ?_
  rintro _ _ ⟨rfl,rfl⟩
  try simp only[aq,al]
  have hg:=hget (done++[a]) a ham
  change(Ob.get (un x.S (done++[a])) a 4).1=_ at hg
  rw[hg]
  have hlen:done.length<2^40:=by
   have:=congrArg List.length hdr
   rw[List.length_append,List.length_cons]at this
   omega
  refine ax fun b18=> ?_
  refine df (s:=s) (x:=⟨some ⟨b18,0,none⟩,1,1⟩) (ys:=[i64 (sr x.S a)]) ca tk (Rd.cl tk rfl rfl) rfl (by rw[hs];dsimp only;omega) (by rw[hs];dsimp only;omega) fun v hv=> ?_
  refine Tr.drop (A:=aw b18 _) tk ?_
  have e1:(done.map (sr x.S)).map i64++[i64 (sr x.S a)]=((done++[a]).map (sr x.S)).map i64:=by simp
  rw[e1]
  refine Tr.perm (aI.perm (M:=aE v 1 (((done++[a]).map (sr x.S)).map i64)::aw b1 [.pointer (some ⟨i.p,0,none⟩)]::i.A {x with S:=un x.S (done++[a]),rows:=x.rows.set k t}) ag) ?_
  exact hX t.length _ _ (by rw[List.length_cons];omega) ⟨done++[a],t,v,by rw[List.append_assoc];exact hdr,rfl,rfl,by rw[hv,hs,List.length_append];rfl,W2,rfl⟩
theorem CH:zc Tryz.prog 127=[.pointer none]:=by kernel_rfl
theorem EF{S:aD}{cs:List aS}(hw:aO S cs)(l:List Int){a:Int}(hr:Qu.ba S a=true):sr (un S l) a=sr S a:=by
 obtain⟨hd,hh,h4⟩:=aM hr
 unfold sr
 rw[nm l hw hh (by decide) (by rw[dm hw hh h4];decide),if_neg (fun g=>absurd g.2 (by decide))]
abbrev part(x:Rt)(k:Nat):Rt:={x with S:=un x.S (x.rows.take k).flatten,rows:=List.replicate k []++x.rows.drop k,pe:=[]}
theorem CX{x:Rt}{k:Nat}(hk:k<x.rows.length):∃h:k<(part x k).rows.length,(part x k).rows[k]=x.rows[k]:=by
 have h:k<(List.replicate k ([]:List Int)++x.rows.drop k).length:=by rw[List.length_append,List.length_replicate,List.length_drop];omega
 refine⟨h,?_⟩
 show(List.replicate k ([]:List Int)++x.rows.drop k)[k]=_
 rw[List.getElem_append_right (by rw[List.length_replicate];exact Nat.le_refl k)]
 simp
theorem nD{l:List (List Int)}{k:Nat}(hk:k<l.length):(l.take (k+1)).flatten=(l.take k).flatten++l[k]:=by
 rw[List.take_add_one,List.getElem?_eq_getElem hk,List.flatten_append]
 show _++[l[k]].flatten=_
 rw[List.flatten_singleton]
theorem yx{x:Rt}{k:Nat}(hk:k<x.rows.length):({part x k with S:=un (part x k).S x.rows[k],rows:=(part x k).rows.set k []}:Rt)=part x (k+1):=by
 have e1:un (un x.S (x.rows.take k).flatten) x.rows[k]=un x.S (x.rows.take (k+1)).flatten:=by
  rw[←DC,nD hk]
 have e2:(List.replicate k ([]:List Int)++x.rows.drop k).set k []=List.replicate (k+1) []++x.rows.drop (k+1):=by
  rw[List.set_append_right _ _ (by rw[List.length_replicate];exact Nat.le_refl k),List.length_replicate,Nat.sub_self,List.drop_eq_getElem_cons hk,List.set_cons_zero,List.replicate_succ',List.append_assoc];rfl
 show(⟨un (un x.S (x.rows.take k).flatten) x.rows[k],_,(List.replicate k ([]:List Int)++x.rows.drop k).set k [],_,_,_,_,_,_,_,_,_,_⟩:Rt)=_
 rw[e1,e2]
theorem round(i:Pl)(x:Rt){N:Int}(H:W x N)(hN:N+1<2^50):Gl.Spec ρ Tryz.prog 32 [.pointer (some ⟨i.p,0,none⟩)] (i.A x) RS
  fun r M=>∃(y:Rt) (out:List Int),fB x y out∧r.n=out.length∧out.length≤2^30∧M=aE r 1 (out.map i64)::i.A y:=by
 refine Gl.Spec.of (fun Q w h=>F.fair.Round.calls (some ⟨i.p,0,none⟩) h) fun R=> ?_
 unfold F.fair.Round
 rw[CH]
 try simp only[aq,al]
 refine ak rfl (ax fun b1=> ?_)
 refine aL (b:=b1) (off:=0) rfl tk (by simp) rfl ?_
 refine ai (k:= .ptr) (b:=b1) (off:=0) (x:=some ⟨i.p,0,none⟩) (by rw[af]) tk rfl ?_
 refine ae (gZ i x (H.I.EP (by omega)) false) ag ?_
 rintro _ _ ⟨s1,s2,s3,s4,A1,A2,A3,A4,x1,rfl,hC,rfl⟩
 try simp only[aq,al]
 refine Tr.drop (A:=A1) .here (Tr.drop (A:=A2) .here (Tr.drop (A:=A3) .here (Tr.drop (A:=A4) .here ?_)))
 have I1:=hC.inv H.I
 have hpe:=FI.len I1.w.hw I1.w.f
 refine bD (b:=b1) (off:=0) (x:=(some ⟨i.p,0,none⟩,())) [] rfl tk rfl ?_
 refine ae (finish i x1 (by omega)) ag ?_
 rintro _ _ rfl
 try simp only[aq,al]
 refine ai (k:= .ptr) (b:=b1) (off:=0) (x:=some ⟨i.p,0,none⟩) (by rw[af]) tk rfl ?_
 refine ah ?_
 refine ai (k:= .ptr) (b:=i.p) (off:=0) (x:=some ⟨i.r,0,none⟩) (by rw[af]) tk rfl ?_
 refine ah (uY (p:=i.r) (hp:=i.b) (rows:=x1.rows) (n:=x1.aU) (by rw[af]) tk fun q=> ?_)
 refine ae (iI q i.b x1.rows) ag ?_
 rintro x' M ⟨rfl,rfl⟩
 try simp only[aq,al]
 refine Tr.close ag (cL.cl (p:=i.r) (q:=q) (hp:=i.b) (rows:=x1.rows) (n:=x1.aU)) ?_
 refine Tr.cq 1 ?_
 have hw:=I1.w.hw
 have hfl:x1.rows.flatten.length≤2^20:=by
  have:=mg I1.w.q.nd (m:=Sp.each x1.S) fun a ha=>by
   obtain⟨hd,hh,_⟩:=aM (I1.w.q.qr a ha).1
   exact(cb hw).mpr ⟨hd,hh⟩
  have:=Sp.cV hw.wf
  omega
 have h0:(part x1 0).Inv (N+1):={I1 with w:={I1.w with f:=⟨by simpa using(List.nodup_append.mp I1.w.f.nd).1,fun a ha=>I1.w.f.fl a (List.mem_append_left _ (by simpa using ha))⟩}}
 refine Tr.perm (aI.perm (M:=aE ⟨none,0,0⟩ 1 ((((x1.rows.take 0).flatten).map (sr x1.S)).map i64)::aw b1 [.pointer (some ⟨i.p,0,none⟩)]::i.A (part x1 0)) ag) ?_
 refine aP (I:=fun m u M=>∃(k:Nat) (s:ay),k≤x1.rows.length∧m=x1.rows.length-k∧u=(s,(k:Int),())∧s.n=(x1.rows.take k).flatten.length∧(part x1 k).Inv (N+1)∧
  M=aE s 1 (((x1.rows.take k).flatten.map (sr x1.S)).map i64)::aw b1 [.pointer (some ⟨i.p,0,none⟩)]::(i.A (part x1 k)++R)) x1.rows.length ⟨0,_,by omega,rfl,rfl,rfl,h0,rfl⟩ ?_
 rintro m _ _ ⟨k,s,hk,rfl,rfl,hs,Ik,rfl⟩ X hX
 dsimp only
 refine aj (fun hc=> ?_) (fun hc=> ?_)
 ·have hk':(k:Int)<(x1.rows.length:Nat):=of_decide_eq_true hc
  have hk:k<x1.rows.length:=by omega
  obtain⟨hk2,ek⟩:=CX hk
  refine bD (b:=b1) (off:=0) (x:=(some ⟨i.p,0,none⟩,())) [] rfl tk rfl ?_
  refine ae (polled i (part x1 k) Ik k hk2) ag ?_
  rintro r _ ⟨hr,Ik2,rfl⟩
  rw[ek]at hr Ik2⊢
  rw[yx hk]at Ik2⊢
  try simp only[aq,al]
  have e1:x1.rows[k].map (sr (part x1 k).S)=x1.rows[k].map (sr x1.S):=List.map_congr_left fun a ha=>EF hw _ (I1.w.q.qr a (gI hk ha)).1
  have e2:(x1.rows.take (k+1)).flatten=(x1.rows.take k).flatten++x1.rows[k]:=nD hk
  have hle:(x1.rows.take (k+1)).flatten.length≤x1.rows.flatten.length:=by
   conv=>rhs;rw[←List.take_append_drop (k+1) x1.rows,List.flatten_append,List.length_append]
   omega
  rw[e2,List.length_append]at hle
  rw[e1]
  refine jA (xs:=(x1.rows.take k).flatten.map (sr x1.S)) (ys:=x1.rows[k].map (sr x1.S)) ca tk (Rd.sl tk (by rw[List.length_map,List.length_map];omega)) (by rw[List.length_map,List.length_map];omega) fun v hv=> ?_
  rw[wrap64 (n:=(k:Int)+1) (by have:=I1.w.q.ux;omega) (by have:=I1.w.q.ux;omega)]
  refine Tr.drop (A:=aE r 1 _) tk ?_
  rw[←List.map_append,←e2]
  refine Tr.perm (aI.perm (M:=aE v 1 (((x1.rows.take (k+1)).flatten.map (sr x1.S)).map i64)::aw b1 [.pointer (some ⟨i.p,0,none⟩)]::i.A (part x1 (k+1))) ag) ?_
  exact hX (x1.rows.length-(k+1)) _ _ (by omega) ⟨k+1,v,by omega,rfl,rfl,by rw[hv,e2,List.length_append,List.length_map,List.length_map],Ik2,rfl⟩
 ·have hk':¬(k:Int)<(x1.rows.length:Nat):=of_decide_eq_false hc
  obtain rfl:k=x1.rows.length:=by omega
  rw[List.take_length]at hs
  have e1:part x1 x1.rows.length=emp x1:=by
   unfold part emp
   rw[List.take_length,List.drop_length,List.append_nil]
  rw[e1,List.take_length]
  refine Tr.drop (A:=aw b1 _) tk ?_
  exact aa (x:=s) rfl ⟨emp x1,x1.rows.flatten.map (sr x1.S),⟨x1,hC,rfl,rfl⟩,by rw[List.length_map];exact hs,by rw[List.length_map];omega,rfl⟩ ag aB
theorem settle(i:Pl)(x:Rt){N:Int}(H:W x N)(n:Nat)(hn:n≤2^20)(hN:N+n+1<2^50):Gl.Spec ρ Tryz.prog 18 [.pointer (some ⟨i.p,0,none⟩),i64 n] (i.A x) RS
  fun r M=>∃(y:Rt) (o:List (List Int)) (l:List ru),eu n x y o∧l.map (·.2)=o∧(∀z∈l,z.1.n=z.2.length∧z.2.length≤2^30∧z.1.n≤z.1.c)∧r.n=n∧M=aE r 1 (l.map jF)::star (l.map sR)::i.A y:=by
 refine Gl.Spec.of (fun Q w h=>F.fair.ku.calls (some ⟨i.p,0,none⟩) n h) fun R=> ?_
 unfold F.fair.ku
 try simp only[aq,al]
 have en:(if(n:Int)>0 then(n:Int)else 0)=n:=by split<;>omega
 refine ak rfl ?_
 refine Tr.cq 1 ?_
 refine Tr.close (M:=[]) (A:=star (([]:List ru).map sR)) .nil (fun h H=>H) ?_
 refine Tr.perm (aI.perm (M:=aE ⟨none,0,0⟩ 1 (([]:List ru).map jF)::star (([]:List ru).map sR)::i.A x) ag) ?_
 refine aP (I:=fun m u M=>∃(j:Nat) (t:ay) (y:Rt) (o:List (List Int)) (l:List ru),j≤n∧m=n-j∧u=(t,(j:Int),())∧eu j x y o∧l.map (·.2)=o∧(∀z∈l,z.1.n=z.2.length∧z.2.length≤2^30∧z.1.n≤z.1.c)∧t.n=j∧
  M=aE t 1 (l.map jF)::star (l.map sR)::(i.A y++R)) n ⟨0,_,x,[],[],by omega,rfl,rfl,.zero,rfl,(fun z hz=>by cases hz),rfl,rfl⟩ ?_
 rintro m _ _ ⟨j,t,y,o,l,hj,rfl,rfl,hr,hl,hz,ht,rfl⟩ X hX
 dsimp only
 refine aj (fun hc=> ?_) (fun hc=> ?_)
 ·have hj':j<n:=by
   have h:(j:Int)<(if(n:Int)>0 then(n:Int)else 0):=of_decide_eq_true hc
   rw[en]at h;omega
  have Wy:=hr.w H (by omega)
  refine ae (round i y Wy (by omega)) ag ?_
  rintro s _ ⟨z,out,hR,hs,ho,rfl⟩
  try simp only[aq,al]
  refine ax fun b=> ?_
  refine df (s:=t) (x:=⟨some ⟨b,0,none⟩,1,1⟩) (ys:=[.slice s.a s.n s.c]) AU tk (Rd.cl tk rfl rfl) rfl (by rw[ht];dsimp only;omega) (by rw[ht];dsimp only;omega) fun v hv=> ?_
  refine Tr.drop (A:=aw b _) tk ?_
  refine Tr.fD (s:=s) (m:=1) (xs:=out.map i64) tk fun _ hcap=> ?_
  rw[wrap64 (n:=(j:Int)+1) (by omega) (by omega)]
  have e1:l.map jF++[.slice s.a s.n s.c]=(l++[(s,out)]).map jF:=by rw[List.map_append];rfl
  rw[e1]
  refine Tr.close (M:=[star (l.map sR),aE s 1 (out.map i64)]) (A:=star ((l++[(s,out)]).map sR)) ag (fun h H=>by rw[List.map_append];exact dL H) ?_
  refine Tr.perm (aI.perm (M:=aE v 1 ((l++[(s,out)]).map jF)::star ((l++[(s,out)]).map sR)::i.A z) ag) ?_
  refine hX (n-(j+1)) _ _ (by omega) ⟨j+1,v,z,o++[out],l++[(s,out)],by omega,rfl,rfl,.succ hr hR,by rw[List.map_append,hl];rfl,fun w hw=> ?_,by rw[hv,ht],rfl⟩
  rcases List.mem_append.mp hw with h|h
  ·exact hz w h
  ·rw[List.mem_singleton]at h;subst h;exact⟨hs,ho,hcap⟩
 ·have hj':j=n:=by
   have h:¬(j:Int)<(if(n:Int)>0 then(n:Int)else 0):=of_decide_eq_false hc
   rw[en]at h;omega
  subst hj'
  exact aa (x:=t) rfl ⟨y,o,l,hr,hl,hz,ht,rfl⟩ ag aB
theorem Co(n:Int):Gl.Spec ρ Tryz.prog 18 [.pointer none,i64 n] [] RS fun r M=>r=⟨none,0,0⟩∧M=[]:=by
 refine Gl.Spec.of (fun Q w h=>F.fair.ku.calls none n h) fun R=> ?_
 unfold F.fair.ku
 refine aH rfl ?_
 exact aa (x:=(⟨none,0,0⟩:ay)) rfl ⟨rfl,rfl⟩ ag aB
theorem fB.rn{x y:Rt}{out:List Int}(h:fB x y out):y.rn=x.rn+1:=by
 obtain⟨x1,⟨z1,z2,l,m2,m3,hC,rfl⟩,rfl,_⟩:=h
 rfl
theorem eu.rn{n:Nat}{x y:Rt}{o:List (List Int)}(h:eu n x y o):y.rn=x.rn+n:=by
 induction h with
 |zero=>simp
 |succ _ r ih=>rw[r.rn,ih];omega
theorem C9{pg aZ stack:Int}(h:(1≤pg∧pg≤256)∧0≤aZ∧(1≤stack∧stack≤4096))(hr:aZ<9223372036854775808):W (Rt.new pg aZ stack) 0:=⟨Rt.Inv.new h hr,Rt.Eh h.1,Rt.D3 h.1⟩
end Fr
theorem tf:Gl.Spec ρ Tryz.prog 20 [] [] RB fun r M=>r=true∧M=[]:=by
 refine Gl.Spec.of (fun Q w h=>F.bL.wo.calls h) fun R=> ?_
 unfold F.bL.wo
 have hc:(1≤(4:Int)∧(4:Int)≤256)∧0≤(0:Int)∧(1≤(1:Int)∧(1:Int)≤4096):=by omega
 refine ae (AA 4 0 1 hc) ag ?_
 rintro _ _ ⟨i,rfl,rfl⟩
 have W0:Fr.W (Rt.new 4 0 1) 0:=Fr.C9 hc (by decide)
 have r0:(Rt.new 4 0 1).rn=0:=rfl
 generalize Rt.new 4 0 1=x at*
 try simp only[aq,al]
 refine ae (om i x) ag ?_
 rintro x' M ⟨rfl,rfl⟩
 try simp only[aq,al]
 refine ak rfl ?_
 iterate 1
  refine ae (sf _) .nil ?_
  rintro x' M ⟨rfl,rfl⟩
  try simp only[aq,al]
 refine ak rfl ?_
 refine ae (Fr.settle i x W0 0 (by decide) (by decide)) ag ?_
 rintro r _ ⟨y,o,l,h0,_,_,hn,rfl⟩
 try simp only[aq,al]
 refine Tr.drop (A:=aE r 1 (l.map jF)) tk (Tr.drop (A:=star (l.map sR)) tk ?_)
 refine aH (by rw[hn];rfl) ?_
 cases h0
 refine ae (Fr.settle i x W0 2 (by decide) (by decide)) ag ?_
 rintro r2 _ ⟨y,o,l2,h2,_,_,hn2,rfl⟩
 try simp only[aq,al]
 refine Tr.drop (A:=aE r2 1 (l2.map jF)) tk (Tr.drop (A:=star (l2.map sR)) tk ?_)
 refine aH (by rw[hn2];rfl) ?_
 refine ae (wR i y) ag ?_
 rintro _ _ ⟨rfl,rfl⟩
 have:=h2.rn
 rw[r0]at this
 refine aH (by rw[this];rfl) ?_
 refine ae (Fr.Co 3) .nil ?_
 rintro _ _ ⟨rfl,rfl⟩
 exact aa (x:=true) rfl ⟨rfl,rfl⟩ ag aB
end Go.Proofs.YtfepdmpplahloaaGreat
