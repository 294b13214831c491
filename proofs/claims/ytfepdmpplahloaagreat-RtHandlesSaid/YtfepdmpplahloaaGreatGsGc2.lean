/- What a collection goes by. -/
import Derived.Test.YtfepdmpplahloaaGreatGsGc
import Derived.Test.YtfepdmpplahloaaGreatGsProc8
import Derived.Test.YtfepdmpplahloaaGreatGsSweep
set_option linter.unusedSimpArgs false
set_option linter.unusedVariables false
namespace Go.Proofs.YtfepdmpplahloaaGreat
open Go Go.Gl
variable{ρ0 ρ:FR}{L L':List Asn}{Post:Value→List Asn→Prop}{T:Tree}
abbrev slP(x:SP2):Asn:=SLc x.1 1 (x.2.map i64)
theorem Tr.keepAll:∀(l:List SP2) {ρ:FR} {L:List Asn},(∀ρ',Le ρ ρ'→(∀x∈l,RoS ρ' x.1 1 (x.2.map i64))→Tr ρ0 ρ' L T Post)→Tr ρ0 ρ (l.map slP++L) T Post
 |[],ρ,L,h=>h ρ (Le.refl ρ) (fun x hx=>by cases hx)
 |x::l,ρ,L,h=>Tr.keepSL .here fun ρ1 hle ro=>Tr.keepAll l fun ρ2 hle2 h2=>h ρ2 (hle.trans hle2) fun y hy=>by
   rcases List.mem_cons.mp hy with rfl|hy
   ·exact ro.le hle2
   ·exact h2 y hy
theorem Tr.keepStar(l:List SP2)(t:Take L (star (l.map slP)) L')(h:∀ρ',Le ρ ρ'→(∀x∈l,RoS ρ' x.1 1 (x.2.map i64))→Tr ρ0 ρ' L' T Post):Tr ρ0 ρ L T Post:=
 Tr.take t fun hle w hw=>Tr.keepAll l h hle w hw.unstar
theorem RoS.head{s:Slc}{xs:List Int}(h:RoS ρ s 1 (xs.map i64))(k:Nat)(hk:k≤s.n):RoS ρ ⟨s.a,k,s.c⟩ 1 ((xs.take k).map i64):=by
 obtain⟨h1,h2⟩:=h
 rw[List.length_map]at h1
 refine⟨by rw[List.length_map,List.length_take];dsimp only;omega,?_⟩
 rcases h2 with h2|⟨b,off,cs,ty,fr,g1,g2,g3⟩
 ·exact .inl (by dsimp only;omega)
 ·refine .inr ⟨b,off,cs,ty,fr,g1,g2,fun i hi=> ?_⟩
  rw[List.length_map,List.length_take]at hi
  rw[g3 i (by rw[List.length_map];omega),List.getElem?_map,List.getElem?_map,List.getElem?_take_of_lt (by omega)]
theorem appSls:appB Tryz.prog #[47,47] 1 24=true:=by kernel_rfl
structure RowsOk(S:Spc)(rows:List (List Int)):Prop where
 few:rows.length≤8
 lk:∀r∈rows,Qu.Lk S r
 len:∀r∈rows,r.length≤2^20
theorem row_at{rows:List (List Int)}{j:Nat}(h:j<rows.length):Qu.has rows j=true∧Qu.row rows j∈rows∧Qu.row rows j=rows[j]:=by
 have h1:Qu.has rows j=true:=by unfold Qu.has;rw[decide_eq_true_eq];omega
 refine⟨h1,row_mem h1,?_⟩
 unfold Qu.row
 rw[Int.toNat_natCast,List.getD_eq_getElem?_getD,List.getElem?_eq_getElem h];rfl
theorem gc_queued(i:Pl)(x:Rt)(hw:HWf x.S x.cs)(hr:RowsOk x.S x.rows):Gl.Spec ρ Tryz.prog 27 [.pointer (some ⟨i.p,0,none⟩)] [blk i.p (i.cs x),RfA i.r i.b x.rows x.ser,HeapA i.b x.S x.cs] RS
  fun r M=>∃l:List SP2,l.map (·.2)=x.rows∧(∀y∈l,y.1.n=y.2.length∧y.1.n≤y.1.c)∧r.n=x.rows.length∧M=[SLc r 1 (l.map slcV),star (l.map slP),blk i.p (i.cs x),RfA i.r i.b x.rows x.ser,HeapA i.b x.S x.cs]:=by
 refine Gl.Spec.of (fun Q w h=>F.gc.Parts.queued.calls (some ⟨i.p,0,none⟩) h) fun R=> ?_
 unfold F.gc.Parts.queued
 try simp only[lca,lna]
 refine en_nn ?_
 refine en_ld (k:= .ptr) (b:=i.p) (off:=0) (x:=some ⟨i.r,0,none⟩) (by rw[fa_mk]) tk rfl (en_nn (RfA.op tk fun q=> ?_))
 refine en_ld (k:= .ptr) (b:=i.r) (off:=0) (x:=some ⟨q,0,none⟩) (by rw[fa_mk]) tk rfl ?_
 refine en_call (que_count q i.b x.rows) tks ?_
 rintro x' M ⟨rfl,rfl⟩
 try simp only[lca,lna]
 refine Tr.close tks (RfA.cl (p:=i.r) (q:=q) (hp:=i.b) (rows:=x.rows) (n:=x.ser)) ?_
 refine Tr.nilSL 1 ?_
 refine Tr.close (M:=[]) (A:=star (([]:List SP2).map slP)) .nil (fun h H=>H) ?_
 refine Tr.perm (Takes.perm (M:=[SLc ⟨none,0,0⟩ 1 (([]:List SP2).map slcV),star (([]:List SP2).map slP),blk i.p (i.cs x),RfA i.r i.b x.rows x.ser,HeapA i.b x.S x.cs]) tks) ?_
 refine en_lp (I:=fun m u M=>∃(j:Nat) (t:Slc) (l:List SP2),j≤x.rows.length∧m=x.rows.length-j∧u=(t,(j:Int),())∧l.map (·.2)=x.rows.take j∧(∀y∈l,y.1.n=y.2.length∧y.1.n≤y.1.c)∧t.n=j∧
  M=[SLc t 1 (l.map slcV),star (l.map slP),blk i.p (i.cs x),RfA i.r i.b x.rows x.ser,HeapA i.b x.S x.cs]++R) x.rows.length ⟨0,_,[],by omega,rfl,rfl,rfl,(fun y hy=>by cases hy),rfl,rfl⟩ ?_
 rintro m _ _ ⟨j,t,l,hj,rfl,rfl,hl,hy,ht,rfl⟩ X hX
 try simp only[lca,lna]
 refine en_br (fun hc=> ?_) (fun hc=> ?_)
 ·have hj':(j:Int)<(x.rows.length:Nat):=of_decide_eq_true hc
  have hjl:j<x.rows.length:=by omega
  obtain⟨r1,r2,r3⟩:=row_at hjl
  refine en_nn ?_
  refine en_ld (k:= .ptr) (b:=i.p) (off:=0) (x:=some ⟨i.r,0,none⟩) (by rw[fa_mk]) tk rfl (en_nn (RfA.op tk fun q=> ?_))
  refine en_ld (k:= .ptr) (b:=i.r) (off:=0) (x:=some ⟨q,0,none⟩) (by rw[fa_mk]) tk rfl ?_
  have hlen:=hr.len _ r2
  refine en_call (que_list q i.b x.S x.cs hw x.rows j r1 (hr.lk _ r2) (by omega)) tks ?_
  rintro _ _ ⟨s,rfl,hs,rfl⟩
  try simp only[lca,lna]
  refine Tr.close tks (RfA.cl (p:=i.r) (q:=q) (hp:=i.b) (rows:=x.rows) (n:=x.ser)) ?_
  refine en_nw fun b=> ?_
  have hfew:=hr.few
  refine en_app (s:=t) (x:=⟨some ⟨b,0,none⟩,1,1⟩) (ys:=[.slice s.a s.n s.c]) appSls tk (Rd.cl tk rfl rfl) rfl (by rw[ht];dsimp only;omega) (by rw[ht];dsimp only;omega) fun v hv=> ?_
  refine Tr.drop (A:=blk b [.slice s.a s.n s.c]) tk ?_
  refine Tr.sl_len (s:=s) (m:=1) (xs:=(Qu.row x.rows j).map i64) tk fun _ hcap=> ?_
  rw[wrap64 (by omega) (by omega)]
  have e1:l.map slcV++[.slice s.a s.n s.c]=(l++[(s,Qu.row x.rows j)]).map slcV:=by rw[List.map_append];rfl
  rw[e1]
  refine Tr.close (M:=[star (l.map slP),SLc s 1 ((Qu.row x.rows j).map i64)]) (A:=star ((l++[(s,Qu.row x.rows j)]).map slP)) tks (fun h H=>by rw[List.map_append];exact star_append' H) ?_
  refine Tr.perm (Takes.perm (M:=[SLc v 1 ((l++[(s,Qu.row x.rows j)]).map slcV),star ((l++[(s,Qu.row x.rows j)]).map slP),blk i.p (i.cs x),RfA i.r i.b x.rows x.ser,HeapA i.b x.S x.cs]) tks) ?_
  refine hX (x.rows.length-(j+1)) _ _ (by omega) ⟨j+1,v,l++[(s,Qu.row x.rows j)],by omega,rfl,rfl,?_,?_,by rw[hv,ht],rfl⟩
  ·rw[List.map_append,hl,List.take_add_one,List.getElem?_eq_getElem hjl,r3];rfl
  ·intro y hyy
   rcases List.mem_append.mp hyy with h|h
   ·exact hy y h
   ·rw[List.mem_singleton]at h;subst h;exact⟨hs,hcap⟩
 ·have hj':¬(j:Int)<(x.rows.length:Nat):=of_decide_eq_false hc
  have hjl:j=x.rows.length:=by omega
  rw[List.take_of_length_le (by omega)]at hl
  exact en_rets (x:=t) rfl ⟨l,hl,hy,by rw[ht,hjl],rfl⟩ tks ens
def Rt.used(x:Rt):Int:=((Sp.each x.S).map (Sp.wordsAt x.S)).sum
theorem sum_le{l:List Int}{f:Int→Int}{k:Int}(h:∀a∈l,0≤f a∧f a≤k):0≤(l.map f).sum∧(l.map f).sum≤k*l.length:=by
 induction l with
 |nil=>simp
 |cons a l ih=>
  have h1:=h a (.head _)
  have h2:=ih fun b hb=>h b (.tail _ hb)
  rw[List.map_cons,List.sum_cons,List.length_cons,Int.natCast_succ,Int.mul_add]
  omega
theorem used_le{S:Spc}(hw:Wf S):0≤((Sp.each S).map (Sp.wordsAt S)).sum∧((Sp.each S).map (Sp.wordsAt S)).sum≤2^23:=by
 have hb:∀a∈Sp.each S,0≤Sp.wordsAt S a∧Sp.wordsAt S a≤1024:=fun a ha=>by
  obtain⟨n,rfl,_,w,h1,h2,h3,_⟩:=Sp.each_find hw ha
  unfold Sp.wordsAt;rw[h1];dsimp only;omega
 have h1:=sum_le hb
 have h2:=Sp.each_len hw
 omega
def Rt.roots(x:Rt):List Int:=Mg.merge [(Hn.all x.hs).map (·.2),x.ro,x.rows.flatMap (·.take 1),x.pe]
def Rt.free(x:Rt):Int:=((x.S.ws.length-64:Nat):Int)-x.used
structure Rt.Ok(x:Rt):Prop where
 hw:HWf x.S x.cs
 rows:RowsOk x.S x.rows
 hs:Hn.Ok x.hs
 ro:x.ro.length=16
 wa:x.wa.length≤2^20
 pe:x.pe.length≤2^20
 ws:64≤x.S.ws.length
theorem flatten_le{l:List (List Int)}{k:Nat}(h:∀r∈l,r.length≤k):l.flatten.length≤k*l.length:=by
 induction l with
 |nil=>simp
 |cons a l ih=>
  have h1:=h a (.head _)
  have h2:=ih fun b hb=>h b (.tail _ hb)
  rw[List.flatten_cons,List.length_append,List.length_cons,Nat.mul_succ]
  omega
theorem firsts_len{rows:List (List Int)}:(rows.flatMap (·.take 1)).length≤rows.length:=by
 have:=flatten_le (l:=rows.map (·.take 1)) (k:=1) (fun r hr=>by
  obtain⟨y,_,rfl⟩:=List.mem_map.mp hr
  rw[List.length_take];omega)
 rw[List.length_map,←List.flatMap_def]at this
 omega
theorem zcIn20:zc Tryz.prog 180=[.slice none 0 0,.slice none 0 0,.int .i64 0,.int .i64 0,.int .i64 0,.bool false,.int .i64 0]:=by kernel_rfl
theorem zcHeld:zc Tryz.prog 118=[i64 0,i64 0]:=by kernel_rfl
abbrev InL:RK:= .one (.g [.slice,.slice,.int .i64,.int .i64,.int .i64,.bool,.int .i64])
theorem appInts:appB Tryz.prog #[46,46] 1 8=true:=by kernel_rfl
theorem heap_space{M:List Asn}{hp:Nat}{S:Spc}{cs:List Cls}{T:Tree}(t:Take L (HeapA hp S cs) L')(h:∀ps pt:Nat,Tr ρ0 ρ (blk hp [.pointer (some ⟨ps,0,none⟩),.pointer (some ⟨pt,0,none⟩)]::SpaceA ps S::TableA pt cs::L') T Post):Tr ρ0 ρ L T Post:=HeapA.op t h
theorem gc_in(i:Pl)(x:Rt)(H:x.Ok)(all:Bool):Gl.Spec ρ Tryz.prog 111 [.pointer (some ⟨i.p,0,none⟩),.bool all] (i.A x) InL
  fun r M=>∃s1 s2:Slc,r=(s1,s2,x.ck,x.free,x.rate,all,x.stack,())∧s1.n=x.roots.length∧s2.n=x.wa.length∧M=SLc s1 1 (x.roots.map i64)::SLc s2 1 (x.wa.map i64)::i.A x:=by
 refine Gl.Spec.of (fun Q w h=>F.gc.Parts.In.calls (some ⟨i.p,0,none⟩) all h) fun R=> ?_
 unfold F.gc.Parts.In
 try simp only[lca,lna]
 have hhl:=H.hs.len
 refine en_nw fun b1=> ?_
 rw[zcIn20]
 refine en_brf rfl (en_nn ?_)
 refine en_ld (k:= .ptr) (b:=i.p) (off:=1) (x:=some ⟨i.h,0,none⟩) (by rw[fa_mk]) tk rfl ?_
 refine en_call (han_all i.h H.hs) tks ?_
 rintro ha _ ⟨hha,rfl⟩
 try simp only[lca,lna]
 have hal:(Hn.all x.hs).length≤512:=by unfold Hn.all;rw[hhl];exact Hn.all_len 512
 refine Tr.keepSL (s:=ha) tk fun ρ1 hle1 roh=> ?_
 refine Tr.nilSL 1 ?_
 refine Tr.perm (Takes.perm (M:=[SLc ⟨none,0,0⟩ 1 ((((Hn.all x.hs).take 0).map (·.2)).map i64),blk b1 [.slice none 0 0,.slice none 0 0,.int .i64 0,.int .i64 0,.int .i64 0,.bool false,.int .i64 0]]++i.A x) tks) ?_
 refine en_lp (I:=fun m u M=>∃(j:Nat) (t:Slc),j≤(Hn.all x.hs).length∧m=(Hn.all x.hs).length-j∧u=(t,(j:Int),())∧t.n=j∧
  M=([SLc t 1 ((((Hn.all x.hs).take j).map (·.2)).map i64),blk b1 [.slice none 0 0,.slice none 0 0,.int .i64 0,.int .i64 0,.int .i64 0,.bool false,.int .i64 0]]++i.A x)++R) (Hn.all x.hs).length ⟨0,_,by omega,rfl,rfl,rfl,rfl⟩ ?_
 rintro m _ _ ⟨j,t,hj,rfl,rfl,ht,rfl⟩ X hX
 try simp only[lca,lna]
 refine en_br (fun hc=> ?_) (fun hc=> ?_)
 ·have hj':(j:Int)<(ha.n:Nat):=of_decide_eq_true hc
  have hjl:j<(Hn.all x.hs).length:=by omega
  obtain⟨g1,g2⟩:=hc_get (hs:=Hn.all x.hs) hjl
  refine en_ixRo roh (by omega) hj' fun a0 ha0=> ?_
  try simp only[lca,lna]
  rw[Int.toNat_natCast]
  refine en_ldRo (k:= .int .i64) (j:=j*2) (x:=(Hn.at' (Hn.all x.hs) j).1) ha0 roh (by rintro b o rfl;rw[fa_mk,fa_mk];rfl) g1 ?_
  refine en_ldRo (k:= .int .i64) (j:=j*2+1) (x:=(Hn.at' (Hn.all x.hs) j).2) ha0 roh (by rintro b o rfl;rw[fa_mk,fa_mk];rfl) g2 ?_
  simp only[ldG]
  refine en_nw fun b9=> ?_
  rw[zcHeld]
  refine en_st (b:=b9) (off:=0) rfl tk (by simp) rfl ?_
  refine en_ld (k:= .int .i64) (b:=b9) (off:=1) (x:=(Hn.at' (Hn.all x.hs) j).2) (by rw[fa_mk]) tk rfl ?_
  refine Tr.drop (A:=blk b9 (setL [i64 0,i64 0] 0 [.int .i64 (Hn.at' (Hn.all x.hs) j).1,.int .i64 (Hn.at' (Hn.all x.hs) j).2])) tk ?_
  refine en_appI appInt tk (by rw[List.length_map,List.length_take];omega) fun v hv=> ?_
  rw[wrap64 (by omega) (by omega)]
  have e:((Hn.all x.hs).take j).map (·.2)++[(Hn.at' (Hn.all x.hs) j).2]=((Hn.all x.hs).take (j+1)).map (·.2):=by
   rw[take_succ_getD (0,0) hjl,List.map_append];rfl
  rw[e]
  rw[List.length_map,List.length_take,Nat.min_eq_left (by omega)]at hv
  exact hX ((Hn.all x.hs).length-(j+1)) _ _ (by omega) ⟨j+1,v,by omega,rfl,rfl,hv,rfl⟩
 ·have hj':¬(j:Int)<(ha.n:Nat):=of_decide_eq_false hc
  have hjl:j=(Hn.all x.hs).length:=by omega
  rw[List.take_of_length_le (by omega)]
  clear hX
  refine Tr.keepSL (s:=t) tk fun ρ2 hle2 rot=> ?_
  refine en_call (gc_queued i x H.hw H.rows) tks ?_
  rintro r _ ⟨l,hl,hly,hrn,rfl⟩
  try simp only[lca,lna]
  have hll:l.length=x.rows.length:=by rw[←hl,List.length_map]
  have hfew:=H.rows.few
  refine Tr.keepSL (s:=r) tk fun ρ3 hle3 ror=> ?_
  refine Tr.keepStar l tk fun ρ4 hle4 rol=> ?_
  replace ror:=ror.le hle4
  refine Tr.nilSL 1 ?_
  refine Tr.perm (Takes.perm (M:=[SLc ⟨none,0,0⟩ 1 (((x.rows.take 0).flatMap (·.take 1)).map i64),blk b1 [.slice none 0 0,.slice none 0 0,.int .i64 0,.int .i64 0,.int .i64 0,.bool false,.int .i64 0]]++i.A x) tks) ?_
  refine en_lp (I:=fun m u M=>∃(j:Nat) (t:Slc),j≤x.rows.length∧m=x.rows.length-j∧u=(t,(j:Int),())∧t.n=((x.rows.take j).flatMap (·.take 1)).length∧
   M=([SLc t 1 (((x.rows.take j).flatMap (·.take 1)).map i64),blk b1 [.slice none 0 0,.slice none 0 0,.int .i64 0,.int .i64 0,.int .i64 0,.bool false,.int .i64 0]]++i.A x)++R) x.rows.length ⟨0,_,by omega,rfl,rfl,rfl,rfl⟩ ?_
  rintro m _ _ ⟨j,u,hj,rfl,rfl,hu,rfl⟩ X hX
  try simp only[lca,lna]
  have hfl:=firsts_len (rows:=x.rows.take j)
  have hftl:(x.rows.take j).length=j:=by rw[List.length_take];omega
  refine en_br (fun hc=> ?_) (fun hc=> ?_)
  ·have hj':(j:Int)<(r.n:Nat):=of_decide_eq_true hc
   have hjl:j<l.length:=by omega
   refine en_ixRo ror (by omega) hj' fun a0 ha=> ?_
   refine en_ldRo (j:=j) (x:=(l.getD j (⟨none,0,0⟩,[])).1) ha ror (by rintro b o rfl;rw[fa_mk];simp) (slcV_get hjl) ?_
   have hmem:l.getD j (⟨none,0,0⟩,[])∈l:=by rw[List.getD_eq_getElem?_getD,List.getElem?_eq_getElem hjl];exact List.getElem_mem _
   obtain⟨hy1,hy2⟩:=hly _ hmem
   have ro1:=rol _ hmem
   have ex:x.rows[j]? =some (l.getD j (⟨none,0,0⟩,[])).2:=by rw[←hl,List.getElem?_map,List.getD_eq_getElem?_getD,List.getElem?_eq_getElem hjl];rfl
   generalize l.getD j (⟨none,0,0⟩,[])=y at*
   obtain⟨k,hk,hk2⟩:∃k:Nat,(if(1:Int)<(y.1.n:Nat)then(1:Int)else(y.1.n:Nat))=k∧k=min 1 y.1.n:=by
    refine⟨min 1 y.1.n,?_,rfl⟩
    split<;>omega
   rw[hk]
   refine en_slc (by omega) (by omega) (by omega) ?_
   dsimp only
   rw[ite_fa0,Int.toNat_natCast,show k-(0:Int).toNat=k by omega,show y.1.c-(0:Int).toNat=y.1.c by omega]
   have ro2:=RoS.head ro1 k (by omega)
   have et:y.2.take k=y.2.take 1:=by
    rcases Nat.eq_zero_or_pos y.1.n with h0|h0
    ·have:y.2=[]:=List.eq_nil_of_length_eq_zero (by omega)
     rw[this];simp
    ·rw[show k=1 by omega]
   rw[et]at ro2
   refine en_appS (x:=⟨y.1.a,k,y.1.c⟩) (ys:=y.2.take 1) appInts tk (Rd.ro ro2) (by rw[List.length_take];omega) fun v hv=> ?_
   rw[wrap64 (by omega) (by omega)]
   have e:(x.rows.take j).flatMap (·.take 1)++y.2.take 1=(x.rows.take (j+1)).flatMap (·.take 1):=by
    conv=>rhs;rw[List.take_add_one,ex,List.flatMap_append]
    simp
   rw[e]
   rw[←List.length_append,e]at hv
   exact hX (x.rows.length-(j+1)) _ _ (by omega) ⟨j+1,v,by omega,rfl,rfl,hv,rfl⟩
  ·have hj':¬(j:Int)<(r.n:Nat):=of_decide_eq_false hc
   have hjl:j=x.rows.length:=by omega
   rw[List.take_of_length_le (by omega)]at hu hfl⊢
   clear hX
   refine Tr.keepSL (s:=u) tk fun ρ5 hle5 rou=> ?_
   refine heap_space (M:=[]) tk fun ps pt=> ?_
   refine en_drw (en_held [blk i.p (i.cs x),blk i.b [.pointer (some ⟨ps,0,none⟩),.pointer (some ⟨pt,0,none⟩)]] tks ?_)
   refine en_nn (en_ldS (k:= .ptr) (b:=i.p) (off:=2) (x:=some ⟨i.o,0,none⟩) (by rw[fa_mk]) tk rfl ?_)
   refine en_nn (en_ldS (k:= .ptr) (b:=i.p) (off:=3) (x:=some ⟨i.f,0,none⟩) (by rw[fa_mk]) tk rfl ?_)
   refine en_nn (en_ldS (k:= .ptr) (b:=i.p) (off:=3) (x:=some ⟨i.f,0,none⟩) (by rw[fa_mk]) tk rfl ?_)
   refine en_nn (en_ldS (k:= .int .i64) (b:=i.p) (off:=8) (x:=x.ck) (by rw[fa_mk]) tk rfl ?_)
   refine en_nn (en_ldS (k:= .ptr) (b:=i.p) (off:=4) (x:=some ⟨i.b,0,none⟩) (by rw[fa_mk]) tk rfl ?_)
   refine en_nn (en_ldS (k:= .ptr) (b:=i.b) (off:=0) (x:=some ⟨ps,0,none⟩) (by rw[fa_mk]) tk rfl ?_)
   refine en_nn (en_ldS (k:= .ptr) (b:=i.p) (off:=4) (x:=some ⟨i.b,0,none⟩) (by rw[fa_mk]) tk rfl ?_)
   refine en_nn (en_ldS (k:= .ptr) (b:=i.b) (off:=0) (x:=some ⟨ps,0,none⟩) (by rw[fa_mk]) tk rfl ?_)
   refine en_nn (en_ldS (k:= .int .i64) (b:=i.p) (off:=6) (x:=x.rate) (by rw[fa_mk,fa_mk]) tk rfl ?_)
   refine en_nn (en_ldS (k:= .int .i64) (b:=i.p) (off:=7) (x:=x.stack) (by rw[fa_mk,fa_mk]) tk rfl ?_)
   have hwl:=H.hw.wf.len
   have hwm:=H.hw.wf.most
   have hro:=H.ro
   have hpe:=H.pe
   have hwa:=H.wa
   have hws:=H.ws
   refine en_call (root_roots i.o x.ro H.ro) tks ?_
   rintro q1 _ ⟨hq1,rfl⟩
   try simp only[lca,lna]
   refine Tr.keepSL (s:=q1) tk fun ρ6 hle6 ro6=> ?_
   refine en_chkW hle6 tks ?_
   refine en_call (fin_pending i.f i.b x.wa x.pe (by omega)) tks ?_
   rintro q2 _ ⟨hq2,rfl⟩
   try simp only[lca,lna]
   refine Tr.keepSL (s:=q2) tk fun ρ7 hle7 ro7=> ?_
   have hle67:=hle6.trans hle7
   refine en_chkW hle67 tks ?_
   refine en_nw fun b3=>en_chkW hle67 tks ?_
   refine Tr.keep (b:=b3) (cs:=[(t,(Hn.all x.hs).map (·.2)),(q1,x.ro),(u,x.rows.flatMap (·.take 1)),(q2,x.pe)].map slcV) tk fun ρ8 ⟨ty,hb3⟩ hle8=> ?_
   have hle68:=hle67.trans hle8
   have hfl2:((([(t,(Hn.all x.hs).map (·.2)),(q1,x.ro),(u,x.rows.flatMap (·.take 1)),(q2,x.pe)]:List SP2)).flatMap (·.2)).length<2^39:=by
    simp only[List.flatMap_cons,List.flatMap_nil,List.length_append,List.length_nil,List.length_map]
    omega
   refine en_call (rt_merge ⟨some ⟨b3,0,none⟩,4,4⟩ [(t,(Hn.all x.hs).map (·.2)),(q1,x.ro),(u,x.rows.flatMap (·.take 1)),(q2,x.pe)] ⟨rfl,.inr ⟨b3,0,_,ty,_,rfl,hb3,fun i hi=> ?_⟩⟩ ?_ hfl2 (by simp)) tks ?_
   ·rw[Nat.zero_add,List.getElem?_toArray]
   ·intro y hy
    simp only[List.mem_cons,List.not_mem_nil,or_false]at hy
    rcases hy with rfl|rfl|rfl|rfl
    ·exact rot.le (hle3.trans (hle4.trans (hle5.trans hle68)))
    ·exact ro6.le (hle7.trans hle8)
    ·exact rou.le hle68
    ·exact ro7.le hle8
   rintro q3 _ ⟨hq3,rfl⟩
   try simp only[lca,lna]
   refine en_chkW hle68 tks ?_
   refine en_call (fin_finals i.f i.b x.wa x.pe (by omega)) tks ?_
   rintro q4 _ ⟨hq4,rfl⟩
   try simp only[lca,lna]
   refine en_chkW hle68 tks ?_
   refine en_call (space_cap ps x.S H.ws (by omega)) tks ?_
   rintro x' M ⟨rfl,rfl⟩
   try simp only[lca,lna]
   refine en_chkW hle68 tks ?_
   refine en_call (space_used ps x.S H.hw.wf) tks ?_
   rintro x' M ⟨rfl,rfl⟩
   try simp only[lca,lna]
   refine en_chkW hle68 tks ?_
   have hul:=used_le H.hw.wf
   rw[wrap64 (by omega) (by omega)]
   refine en_st (b:=b1) (off:=0) rfl tk (by simp) rfl ?_
   refine en_ldg (b:=b1) (off:=0) (x:=(q3,q4,x.ck,x.free,x.rate,all,x.stack,())) [] rfl tk rfl ?_
   refine Tr.close tks (HeapA.cl (p:=i.b) (ps:=ps) (pt:=pt) (S:=x.S) (cs:=x.cs)) ?_
   exact en_rets (x:=(q3,q4,x.ck,x.free,x.rate,all,x.stack,())) rfl ⟨q3,q4,rfl,hq3,hq4,rfl⟩ tks ens
end Go.Proofs.YtfepdmpplahloaaGreat
