/- What a collection goes by. -/
import Derived.Test.YtfepdmpplahloaaGreatGsGc
import Derived.Test.YtfepdmpplahloaaGreatGsProc8
import Derived.Test.YtfepdmpplahloaaGreatGsSweep
set_option linter.unusedSimpArgs false
set_option linter.unusedVariables false
namespace Go.Proofs.YtfepdmpplahloaaGreat
open Go Go.Gl
variable{ρ0 ρ:FR}{L L':List aA}{Post:Value→List aA→Prop}{T:Tree}
abbrev sR(x:ru):aA:=aE x.1 1 (x.2.map i64)
theorem Tr.wZ:∀(l:List ru) {ρ:FR} {L:List aA},(∀ρ',Le ρ ρ'→(∀x∈l,eX ρ' x.1 1 (x.2.map i64))→Tr ρ0 ρ' L T Post)→Tr ρ0 ρ (l.map sR++L) T Post
 |[],ρ,L,h=>h ρ (Le.refl ρ) (fun x hx=>by cases hx)
 |x::l,ρ,L,h=>Tr.cX .here fun ρ1 hle ro=>Tr.wZ l fun ρ2 hle2 h2=>h ρ2 (hle.trans hle2) fun y hy=>by
   rcases List.mem_cons.mp hy with rfl|hy
   ·exact ro.le hle2
   ·exact h2 y hy
theorem Tr.kF(l:List ru)(t:Take L (star (l.map sR)) L')(h:∀ρ',Le ρ ρ'→(∀x∈l,eX ρ' x.1 1 (x.2.map i64))→Tr ρ0 ρ' L' T Post):Tr ρ0 ρ L T Post:=
 Tr.take t fun hle w hw=>Tr.wZ l h hle w hw.vv
theorem eX.head{s:ay}{xs:List Int}(h:eX ρ s 1 (xs.map i64))(k:Nat)(hk:k≤s.n):eX ρ ⟨s.a,k,s.c⟩ 1 ((xs.take k).map i64):=by
 obtain⟨h1,h2⟩:=h
 rw[List.length_map]at h1
 refine⟨by rw[List.length_map,List.length_take];dsimp only;omega,?_⟩
 rcases h2 with h2|⟨b,off,cs,ty,fr,g1,g2,g3⟩
 ·exact .inl (by dsimp only;omega)
 ·refine .inr ⟨b,off,cs,ty,fr,g1,g2,fun i hi=> ?_⟩
  rw[List.length_map,List.length_take]at hi
  rw[g3 i (by rw[List.length_map];omega),List.getElem?_map,List.getElem?_map,List.getElem?_take_of_lt (by omega)]
theorem AU:lU Tryz.prog #[47,47] 1 24=true:=by kernel_rfl
structure sK(S:aD)(rows:List (List Int)):Prop where
 ux:rows.length≤8
 lk:∀r∈rows,Qu.Lk S r
 len:∀r∈rows,r.length≤2^20
theorem yL{rows:List (List Int)}{j:Nat}(h:j<rows.length):Qu.has rows j=true∧Qu.row rows j∈rows∧Qu.row rows j=rows[j]:=by
 have h1:Qu.has rows j=true:=by unfold Qu.has;rw[decide_eq_true_eq];omega
 refine⟨h1,jj h1,?_⟩
 unfold Qu.row
 rw[Int.toNat_natCast,List.getD_eq_getElem?_getD,List.getElem?_eq_getElem h];rfl
theorem xE(i:Pl)(x:Rt)(hw:aO x.S x.cs)(hr:sK x.S x.rows):Gl.Spec ρ Tryz.prog 27 [.pointer (some ⟨i.p,0,none⟩)] [aw i.p (i.cs x),cL i.r i.b x.rows x.aU,au i.b x.S x.cs] RS
  fun r M=>∃l:List ru,l.map (·.2)=x.rows∧(∀y∈l,y.1.n=y.2.length∧y.1.n≤y.1.c)∧r.n=x.rows.length∧M=[aE r 1 (l.map jF),star (l.map sR),aw i.p (i.cs x),cL i.r i.b x.rows x.aU,au i.b x.S x.cs]:=by
 refine Gl.Spec.of (fun Q w h=>F.gc.bY.nv.calls (some ⟨i.p,0,none⟩) h) fun R=> ?_
 unfold F.gc.bY.nv
 try simp only[aq,al]
 refine ah ?_
 refine ai (k:= .ptr) (b:=i.p) (off:=0) (x:=some ⟨i.r,0,none⟩) (by rw[af]) tk rfl (ah (cL.op tk fun q=> ?_))
 refine ai (k:= .ptr) (b:=i.r) (off:=0) (x:=some ⟨q,0,none⟩) (by rw[af]) tk rfl ?_
 refine ae (iI q i.b x.rows) ag ?_
 rintro x' M ⟨rfl,rfl⟩
 try simp only[aq,al]
 refine Tr.close ag (cL.cl (p:=i.r) (q:=q) (hp:=i.b) (rows:=x.rows) (n:=x.aU)) ?_
 refine Tr.cq 1 ?_
 refine Tr.close (M:=[]) (A:=star (([]:List ru).map sR)) .nil (fun h H=>H) ?_
 refine Tr.perm (aI.perm (M:=[aE ⟨none,0,0⟩ 1 (([]:List ru).map jF),star (([]:List ru).map sR),aw i.p (i.cs x),cL i.r i.b x.rows x.aU,au i.b x.S x.cs]) ag) ?_
 refine aP (I:=fun m u M=>∃(j:Nat) (t:ay) (l:List ru),j≤x.rows.length∧m=x.rows.length-j∧u=(t,(j:Int),())∧l.map (·.2)=x.rows.take j∧(∀y∈l,y.1.n=y.2.length∧y.1.n≤y.1.c)∧t.n=j∧
  M=[aE t 1 (l.map jF),star (l.map sR),aw i.p (i.cs x),cL i.r i.b x.rows x.aU,au i.b x.S x.cs]++R) x.rows.length ⟨0,_,[],by omega,rfl,rfl,rfl,(fun y hy=>by cases hy),rfl,rfl⟩ ?_
 rintro m _ _ ⟨j,t,l,hj,rfl,rfl,hl,hy,ht,rfl⟩ X hX
 try simp only[aq,al]
 refine aj (fun hc=> ?_) (fun hc=> ?_)
 ·have hj':(j:Int)<(x.rows.length:Nat):=of_decide_eq_true hc
  have hjl:j<x.rows.length:=by omega
  obtain⟨r1,r2,r3⟩:=yL hjl
  refine ah ?_
  refine ai (k:= .ptr) (b:=i.p) (off:=0) (x:=some ⟨i.r,0,none⟩) (by rw[af]) tk rfl (ah (cL.op tk fun q=> ?_))
  refine ai (k:= .ptr) (b:=i.r) (off:=0) (x:=some ⟨q,0,none⟩) (by rw[af]) tk rfl ?_
  have hlen:=hr.len _ r2
  refine ae (ui q i.b x.S x.cs hw x.rows j r1 (hr.lk _ r2) (by omega)) ag ?_
  rintro _ _ ⟨s,rfl,hs,rfl⟩
  try simp only[aq,al]
  refine Tr.close ag (cL.cl (p:=i.r) (q:=q) (hp:=i.b) (rows:=x.rows) (n:=x.aU)) ?_
  refine ax fun b=> ?_
  have hfew:=hr.ux
  refine df (s:=t) (x:=⟨some ⟨b,0,none⟩,1,1⟩) (ys:=[.slice s.a s.n s.c]) AU tk (Rd.cl tk rfl rfl) rfl (by rw[ht];dsimp only;omega) (by rw[ht];dsimp only;omega) fun v hv=> ?_
  refine Tr.drop (A:=aw b [.slice s.a s.n s.c]) tk ?_
  refine Tr.fD (s:=s) (m:=1) (xs:=(Qu.row x.rows j).map i64) tk fun _ hcap=> ?_
  rw[wrap64 (by omega) (by omega)]
  have e1:l.map jF++[.slice s.a s.n s.c]=(l++[(s,Qu.row x.rows j)]).map jF:=by rw[List.map_append];rfl
  rw[e1]
  refine Tr.close (M:=[star (l.map sR),aE s 1 ((Qu.row x.rows j).map i64)]) (A:=star ((l++[(s,Qu.row x.rows j)]).map sR)) ag (fun h H=>by rw[List.map_append];exact dL H) ?_
  refine Tr.perm (aI.perm (M:=[aE v 1 ((l++[(s,Qu.row x.rows j)]).map jF),star ((l++[(s,Qu.row x.rows j)]).map sR),aw i.p (i.cs x),cL i.r i.b x.rows x.aU,au i.b x.S x.cs]) ag) ?_
  refine hX (x.rows.length-(j+1)) _ _ (by omega) ⟨j+1,v,l++[(s,Qu.row x.rows j)],by omega,rfl,rfl,?_,?_,by rw[hv,ht],rfl⟩
  ·rw[List.map_append,hl,List.take_add_one,List.getElem?_eq_getElem hjl,r3];rfl
  ·intro y hyy
   rcases List.mem_append.mp hyy with h|h
   ·exact hy y h
   ·rw[List.mem_singleton]at h;subst h;exact⟨hs,hcap⟩
 ·have hj':¬(j:Int)<(x.rows.length:Nat):=of_decide_eq_false hc
  have hjl:j=x.rows.length:=by omega
  rw[List.take_of_length_le (by omega)]at hl
  exact aa (x:=t) rfl ⟨l,hl,hy,by rw[ht,hjl],rfl⟩ ag aB
def Rt.used(x:Rt):Int:=((Sp.each x.S).map (Sp.bj x.S)).sum
theorem Eb{l:List Int}{f:Int→Int}{k:Int}(h:∀a∈l,0≤f a∧f a≤k):0≤(l.map f).sum∧(l.map f).sum≤k*l.length:=by
 induction l with
 |nil=>simp
 |cons a l ih=>
  have h1:=h a (.head _)
  have h2:=ih fun b hb=>h b (.tail _ hb)
  rw[List.map_cons,List.sum_cons,List.length_cons,Int.natCast_succ,Int.mul_add]
  omega
theorem sD{S:aD}(hw:Wf S):0≤((Sp.each S).map (Sp.bj S)).sum∧((Sp.each S).map (Sp.bj S)).sum≤2^23:=by
 have hb:∀a∈Sp.each S,0≤Sp.bj S a∧Sp.bj S a≤1024:=fun a ha=>by
  obtain⟨n,rfl,_,w,h1,h2,h3,_⟩:=Sp.iL hw ha
  unfold Sp.bj;rw[h1];dsimp only;omega
 have h1:=Eb hb
 have h2:=Sp.cV hw
 omega
def Rt.roots(x:Rt):List Int:=Mg.merge [(Hn.all x.hs).map (·.2),x.ro,x.rows.flatMap (·.take 1),x.pe]
def Rt.free(x:Rt):Int:=((x.S.ws.length-64:Nat):Int)-x.used
structure Rt.Ok(x:Rt):Prop where
 hw:aO x.S x.cs
 rows:sK x.S x.rows
 hs:Hn.Ok x.hs
 ro:x.ro.length=16
 wa:x.wa.length≤2^20
 pe:x.pe.length≤2^20
 ws:64≤x.S.ws.length
theorem vW{l:List (List Int)}{k:Nat}(h:∀r∈l,r.length≤k):l.flatten.length≤k*l.length:=by
 induction l with
 |nil=>simp
 |cons a l ih=>
  have h1:=h a (.head _)
  have h2:=ih fun b hb=>h b (.tail _ hb)
  rw[List.flatten_cons,List.length_append,List.length_cons,Nat.mul_succ]
  omega
theorem pQ{rows:List (List Int)}:(rows.flatMap (·.take 1)).length≤rows.length:=by
 have:=vW (l:=rows.map (·.take 1)) (k:=1) (fun r hr=>by
  obtain⟨y,_,rfl⟩:=List.mem_map.mp hr
  rw[List.length_take];omega)
 rw[List.length_map,←List.flatMap_def]at this
 omega
theorem Em:zc Tryz.prog 180=[.slice none 0 0,.slice none 0 0,.int .i64 0,.int .i64 0,.int .i64 0,.bool false,.int .i64 0]:=by kernel_rfl
theorem D4:zc Tryz.prog 118=[i64 0,i64 0]:=by kernel_rfl
abbrev FJ:RK:= .one (.g [.slice,.slice,.int .i64,.int .i64,.int .i64,.bool,.int .i64])
theorem BC:lU Tryz.prog #[46,46] 1 8=true:=by kernel_rfl
theorem vL{M:List aA}{hp:Nat}{S:aD}{cs:List aS}{T:Tree}(t:Take L (au hp S cs) L')(h:∀ps pt:Nat,Tr ρ0 ρ (aw hp [.pointer (some ⟨ps,0,none⟩),.pointer (some ⟨pt,0,none⟩)]::aF ps S::bz pt cs::L') T Post):Tr ρ0 ρ L T Post:=au.op t h
theorem Dj(i:Pl)(x:Rt)(H:x.Ok)(all:Bool):Gl.Spec ρ Tryz.prog 111 [.pointer (some ⟨i.p,0,none⟩),.bool all] (i.A x) FJ
  fun r M=>∃s1 s2:ay,r=(s1,s2,x.ck,x.free,x.aZ,all,x.stack,())∧s1.n=x.roots.length∧s2.n=x.wa.length∧M=aE s1 1 (x.roots.map i64)::aE s2 1 (x.wa.map i64)::i.A x:=by
 refine Gl.Spec.of (fun Q w h=>F.gc.bY.In.calls (some ⟨i.p,0,none⟩) all h) fun R=> ?_
 unfold F.gc.bY.In
 try simp only[aq,al]
 have hhl:=H.hs.len
 refine ax fun b1=> ?_
 rw[Em]
 refine ak rfl (ah ?_)
 refine ai (k:= .ptr) (b:=i.p) (off:=1) (x:=some ⟨i.h,0,none⟩) (by rw[af]) tk rfl ?_
 refine ae (w6 i.h H.hs) ag ?_
 rintro ha _ ⟨hha,rfl⟩
 try simp only[aq,al]
 have hal:(Hn.all x.hs).length≤512:=by unfold Hn.all;rw[hhl];exact Hn.fF 512
 refine Tr.cX (s:=ha) tk fun ρ1 hle1 roh=> ?_
 refine Tr.cq 1 ?_
 refine Tr.perm (aI.perm (M:=[aE ⟨none,0,0⟩ 1 ((((Hn.all x.hs).take 0).map (·.2)).map i64),aw b1 [.slice none 0 0,.slice none 0 0,.int .i64 0,.int .i64 0,.int .i64 0,.bool false,.int .i64 0]]++i.A x) ag) ?_
 refine aP (I:=fun m u M=>∃(j:Nat) (t:ay),j≤(Hn.all x.hs).length∧m=(Hn.all x.hs).length-j∧u=(t,(j:Int),())∧t.n=j∧
  M=([aE t 1 ((((Hn.all x.hs).take j).map (·.2)).map i64),aw b1 [.slice none 0 0,.slice none 0 0,.int .i64 0,.int .i64 0,.int .i64 0,.bool false,.int .i64 0]]++i.A x)++R) (Hn.all x.hs).length ⟨0,_,by omega,rfl,rfl,rfl,rfl⟩ ?_
 rintro m _ _ ⟨j,t,hj,rfl,rfl,ht,rfl⟩ X hX
 try simp only[aq,al]
 refine aj (fun hc=> ?_) (fun hc=> ?_)
 ·have hj':(j:Int)<(ha.n:Nat):=of_decide_eq_true hc
  have hjl:j<(Hn.all x.hs).length:=by omega
  obtain⟨g1,g2⟩:=ij (hs:=Hn.all x.hs) hjl
  refine bJ roh (by omega) hj' fun a0 ha0=> ?_
  try simp only[aq,al]
  rw[Int.toNat_natCast]
  refine bZ (k:= .int .i64) (j:=j*2) (x:=(Hn.aQ (Hn.all x.hs) j).1) ha0 roh (by rintro b o rfl;rw[af,af];rfl) g1 ?_
  refine bZ (k:= .int .i64) (j:=j*2+1) (x:=(Hn.aQ (Hn.all x.hs) j).2) ha0 roh (by rintro b o rfl;rw[af,af];rfl) g2 ?_
  simp only[Bk]
  refine ax fun b9=> ?_
  rw[D4]
  refine aL (b:=b9) (off:=0) rfl tk (by simp) rfl ?_
  refine ai (k:= .int .i64) (b:=b9) (off:=1) (x:=(Hn.aQ (Hn.all x.hs) j).2) (by rw[af]) tk rfl ?_
  refine Tr.drop (A:=aw b9 (bN [i64 0,i64 0] 0 [.int .i64 (Hn.aQ (Hn.all x.hs) j).1,.int .i64 (Hn.aQ (Hn.all x.hs) j).2])) tk ?_
  refine gw ca tk (by rw[List.length_map,List.length_take];omega) fun v hv=> ?_
  rw[wrap64 (by omega) (by omega)]
  have e:((Hn.all x.hs).take j).map (·.2)++[(Hn.aQ (Hn.all x.hs) j).2]=((Hn.all x.hs).take (j+1)).map (·.2):=by
   rw[aJ (0,0) hjl,List.map_append];rfl
  rw[e]
  rw[List.length_map,List.length_take,Nat.min_eq_left (by omega)]at hv
  exact hX ((Hn.all x.hs).length-(j+1)) _ _ (by omega) ⟨j+1,v,by omega,rfl,rfl,hv,rfl⟩
 ·have hj':¬(j:Int)<(ha.n:Nat):=of_decide_eq_false hc
  have hjl:j=(Hn.all x.hs).length:=by omega
  rw[List.take_of_length_le (by omega)]
  clear hX
  refine Tr.cX (s:=t) tk fun ρ2 hle2 Ez=> ?_
  refine ae (xE i x H.hw H.rows) ag ?_
  rintro r _ ⟨l,hl,hly,hrn,rfl⟩
  try simp only[aq,al]
  have hll:l.length=x.rows.length:=by rw[←hl,List.length_map]
  have hfew:=H.rows.ux
  refine Tr.cX (s:=r) tk fun ρ3 hle3 ror=> ?_
  refine Tr.kF l tk fun ρ4 hle4 rol=> ?_
  replace ror:=ror.le hle4
  refine Tr.cq 1 ?_
  refine Tr.perm (aI.perm (M:=[aE ⟨none,0,0⟩ 1 (((x.rows.take 0).flatMap (·.take 1)).map i64),aw b1 [.slice none 0 0,.slice none 0 0,.int .i64 0,.int .i64 0,.int .i64 0,.bool false,.int .i64 0]]++i.A x) ag) ?_
  refine aP (I:=fun m u M=>∃(j:Nat) (t:ay),j≤x.rows.length∧m=x.rows.length-j∧u=(t,(j:Int),())∧t.n=((x.rows.take j).flatMap (·.take 1)).length∧
   M=([aE t 1 (((x.rows.take j).flatMap (·.take 1)).map i64),aw b1 [.slice none 0 0,.slice none 0 0,.int .i64 0,.int .i64 0,.int .i64 0,.bool false,.int .i64 0]]++i.A x)++R) x.rows.length ⟨0,_,by omega,rfl,rfl,rfl,rfl⟩ ?_
  rintro m _ _ ⟨j,u,hj,rfl,rfl,hu,rfl⟩ X hX
  try simp only[aq,al]
  have hfl:=pQ (rows:=x.rows.take j)
  have hftl:(x.rows.take j).length=j:=by rw[List.length_take];omega
  refine aj (fun hc=> ?_) (fun hc=> ?_)
  ·have hj':(j:Int)<(r.n:Nat):=of_decide_eq_true hc
   have hjl:j<l.length:=by omega
   refine bJ ror (by omega) hj' fun a0 ha=> ?_
   refine bZ (j:=j) (x:=(l.getD j (⟨none,0,0⟩,[])).1) ha ror (by rintro b o rfl;rw[af];simp) (mA hjl) ?_
   have hmem:l.getD j (⟨none,0,0⟩,[])∈l:=by rw[List.getD_eq_getElem?_getD,List.getElem?_eq_getElem hjl];exact List.getElem_mem _
   obtain⟨hy1,hy2⟩:=hly _ hmem
   have ro1:=rol _ hmem
   have ex:x.rows[j]? =some (l.getD j (⟨none,0,0⟩,[])).2:=by rw[←hl,List.getElem?_map,List.getD_eq_getElem?_getD,List.getElem?_eq_getElem hjl];rfl
   generalize l.getD j (⟨none,0,0⟩,[])=y at*
   obtain⟨k,hk,hk2⟩:∃k:Nat,(if(1:Int)<(y.1.n:Nat)then(1:Int)else(y.1.n:Nat))=k∧k=min 1 y.1.n:=by
    refine⟨min 1 y.1.n,?_,rfl⟩
    split<;>omega
   rw[hk]
   refine dR (by omega) (by omega) (by omega) ?_
   dsimp only
   rw[mV,Int.toNat_natCast,show k-(0:Int).toNat=k by omega,show y.1.c-(0:Int).toNat=y.1.c by omega]
   have ro2:=eX.head ro1 k (by omega)
   have et:y.2.take k=y.2.take 1:=by
    rcases Nat.eq_zero_or_pos y.1.n with h0|h0
    ·have:y.2=[]:=List.eq_nil_of_length_eq_zero (by omega)
     rw[this];simp
    ·rw[show k=1 by omega]
   rw[et]at ro2
   refine jA (x:=⟨y.1.a,k,y.1.c⟩) (ys:=y.2.take 1) BC tk (Rd.ro ro2) (by rw[List.length_take];omega) fun v hv=> ?_
   rw[wrap64 (by omega) (by omega)]
   have e:(x.rows.take j).flatMap (·.take 1)++y.2.take 1=(x.rows.take (j+1)).flatMap (·.take 1):=by
    conv=>rhs;rw[List.take_add_one,ex,List.flatMap_append]
    simp
   rw[e]
   rw[←List.length_append,e]at hv
   exact hX (x.rows.length-(j+1)) _ _ (by omega) ⟨j+1,v,by omega,rfl,rfl,hv,rfl⟩
  ·have hj':¬(j:Int)<(r.n:Nat):=of_decide_eq_false hc
   have hjl:j=x.rows.length:=by omega
   rw[List.take_of_length_le (by omega)]at hu hfl⊢
   clear hX
   refine Tr.cX (s:=u) tk fun ρ5 hle5 rou=> ?_
   refine vL (M:=[]) tk fun ps pt=> ?_
   refine aK (aR [aw i.p (i.cs x),aw i.b [.pointer (some ⟨ps,0,none⟩),.pointer (some ⟨pt,0,none⟩)]] ag ?_)
   refine ah (ar (k:= .ptr) (b:=i.p) (off:=2) (x:=some ⟨i.o,0,none⟩) (by rw[af]) tk rfl ?_)
   refine ah (ar (k:= .ptr) (b:=i.p) (off:=3) (x:=some ⟨i.f,0,none⟩) (by rw[af]) tk rfl ?_)
   refine ah (ar (k:= .ptr) (b:=i.p) (off:=3) (x:=some ⟨i.f,0,none⟩) (by rw[af]) tk rfl ?_)
   refine ah (ar (k:= .int .i64) (b:=i.p) (off:=8) (x:=x.ck) (by rw[af]) tk rfl ?_)
   refine ah (ar (k:= .ptr) (b:=i.p) (off:=4) (x:=some ⟨i.b,0,none⟩) (by rw[af]) tk rfl ?_)
   refine ah (ar (k:= .ptr) (b:=i.b) (off:=0) (x:=some ⟨ps,0,none⟩) (by rw[af]) tk rfl ?_)
   refine ah (ar (k:= .ptr) (b:=i.p) (off:=4) (x:=some ⟨i.b,0,none⟩) (by rw[af]) tk rfl ?_)
   refine ah (ar (k:= .ptr) (b:=i.b) (off:=0) (x:=some ⟨ps,0,none⟩) (by rw[af]) tk rfl ?_)
   refine ah (ar (k:= .int .i64) (b:=i.p) (off:=6) (x:=x.aZ) (by rw[af,af]) tk rfl ?_)
   refine ah (ar (k:= .int .i64) (b:=i.p) (off:=7) (x:=x.stack) (by rw[af,af]) tk rfl ?_)
   have hwl:=H.hw.wf.len
   have hwm:=H.hw.wf.gv
   have hro:=H.ro
   have hpe:=H.pe
   have hwa:=H.wa
   have hws:=H.ws
   refine ae (vk i.o x.ro H.ro) ag ?_
   rintro q1 _ ⟨hq1,rfl⟩
   try simp only[aq,al]
   refine Tr.cX (s:=q1) tk fun ρ6 hle6 ro6=> ?_
   refine gV hle6 ag ?_
   refine ae (gW i.f i.b x.wa x.pe (by omega)) ag ?_
   rintro q2 _ ⟨hq2,rfl⟩
   try simp only[aq,al]
   refine Tr.cX (s:=q2) tk fun ρ7 hle7 ro7=> ?_
   have hle67:=hle6.trans hle7
   refine gV hle67 ag ?_
   refine ax fun b3=>gV hle67 ag ?_
   refine Tr.fv (b:=b3) (cs:=[(t,(Hn.all x.hs).map (·.2)),(q1,x.ro),(u,x.rows.flatMap (·.take 1)),(q2,x.pe)].map jF) tk fun ρ8 ⟨ty,hb3⟩ hle8=> ?_
   have hle68:=hle67.trans hle8
   have hfl2:((([(t,(Hn.all x.hs).map (·.2)),(q1,x.ro),(u,x.rows.flatMap (·.take 1)),(q2,x.pe)]:List ru)).flatMap (·.2)).length<2^39:=by
    simp only[List.flatMap_cons,List.flatMap_nil,List.length_append,List.length_nil,List.length_map]
    omega
   refine ae (Aq ⟨some ⟨b3,0,none⟩,4,4⟩ [(t,(Hn.all x.hs).map (·.2)),(q1,x.ro),(u,x.rows.flatMap (·.take 1)),(q2,x.pe)] ⟨rfl,.inr ⟨b3,0,_,ty,_,rfl,hb3,fun i hi=> ?_⟩⟩ ?_ hfl2 (by simp)) ag ?_
   ·rw[Nat.zero_add,List.getElem?_toArray]
   ·intro y hy
    simp only[List.mem_cons,List.not_mem_nil,or_false]at hy
    rcases hy with rfl|rfl|rfl|rfl
    ·exact Ez.le (hle3.trans (hle4.trans (hle5.trans hle68)))
    ·exact ro6.le (hle7.trans hle8)
    ·exact rou.le hle68
    ·exact ro7.le hle8
   rintro q3 _ ⟨hq3,rfl⟩
   try simp only[aq,al]
   refine gV hle68 ag ?_
   refine ae (vp i.f i.b x.wa x.pe (by omega)) ag ?_
   rintro q4 _ ⟨hq4,rfl⟩
   try simp only[aq,al]
   refine gV hle68 ag ?_
   refine ae (qK ps x.S H.ws (by omega)) ag ?_
   rintro x' M ⟨rfl,rfl⟩
   try simp only[aq,al]
   refine gV hle68 ag ?_
   refine ae (oZ ps x.S H.hw.wf) ag ?_
   rintro x' M ⟨rfl,rfl⟩
   try simp only[aq,al]
   refine gV hle68 ag ?_
   have hul:=sD H.hw.wf
   rw[wrap64 (by omega) (by omega)]
   refine aL (b:=b1) (off:=0) rfl tk (by simp) rfl ?_
   refine bD (b:=b1) (off:=0) (x:=(q3,q4,x.ck,x.free,x.aZ,all,x.stack,())) [] rfl tk rfl ?_
   refine Tr.close ag (au.cl (p:=i.b) (ps:=ps) (pt:=pt) (S:=x.S) (cs:=x.cs)) ?_
   exact aa (x:=(q3,q4,x.ck,x.free,x.aZ,all,x.stack,())) rfl ⟨q3,q4,rfl,hq3,hq4,rfl⟩ ag aB
end Go.Proofs.YtfepdmpplahloaaGreat
