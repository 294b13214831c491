import Derived.Test.YtjginndmmlkjiaaGreatGsInv2
set_option linter.unusedSimpArgs false
set_option linter.unusedVariables false
namespace Go.Proofs.YtjginndmmlkjiaaGreat
open Go Go.Gl
variable{ρ0 ρ:FR}{L L':List aD}{Post:Value→List aD→Prop}{T:Tree}
theorem Spec.post{P:Program}{f:FuncId}{args:List Value}{A:List aD}{r:RK}{B B':RT r→List aD→Prop}(h:Gl.Spec ρ P f args A r B)(hb:∀x M,B x M→B' x M):Gl.Spec ρ P f args A r B':=fun R w hw=>
 Calls.mono (h R w hw) fun e w' ⟨x,L,h1,h2,h3⟩=>⟨x,L,h1,hb x L h2,h3⟩
namespace Hn
theorem ko{hs:List Slot}(hl:hs.length=512){a:Int}:a∈(all hs).map (·.2)↔(a≠0∧∃t,t<512∧(bM hs t).2=a):=by
 unfold all;rw[List.mem_map,hl];constructor;·rintro⟨e,he,rfl⟩;obtain⟨t,ht,h⟩:=List.mem_flatMap.mp he;unfold jM at h;grind
 ·rintro⟨h0,t,ht,rfl⟩;refine⟨(told hs t,(bM _ t).2),List.mem_flatMap.mpr ⟨t,List.mem_range.mpr ht,?_⟩,rfl⟩;unfold jM;rw[if_pos h0];simp
end Hn
theorem fM{α:Type}{k:α→Tree}{f:(α→Tree)→Tree}(h:Tr ρ0 ρ L (f k) Post):Tr ρ0 ρ L (jn k f) Post:=h
theorem vG{x:Rt}(hl:x.hs.length=512){a:Int}(ha:0<a):a∈x.roots↔((∃t,t<512∧(Hn.bM x.hs t).2=a)∨a∈x.ro∨(∃r∈x.rows,a∈r.take 1)∨a∈x.pe):=by
 unfold Rt.roots;rw[Mg.mem_merge];constructor
 ·rintro⟨_,r,hr,h⟩;simp only[List.mem_cons,List.not_mem_nil,or_false]at hr;rcases hr with rfl|rfl|rfl|rfl;·exact .inl ((Hn.ko hl).mp h).2
  ·exact .inr (.inl h)
  ·grind
  grind
 ·rintro(h|h|h|h);·exact⟨ha,_,bu,(Hn.ko hl).mpr ⟨ae,h⟩⟩
  ·grind
  ·simp_all
  grind
end Go.Proofs.YtjginndmmlkjiaaGreat
namespace Go.Gl
open Go
variable{ρ0 ρ:FR}{L L':List aD}{Post:Value→List aD→Prop}{T:Tree}
theorem yx{M M':List aD}{s:av}{m:Nat}{xs:List Value}{k:LK}{a a0:Addr}{f:LT k→Tree}{j:Nat}{x:LT k}(hs:s.a=some a0)(t:Take M (aw s m xs) M')(ha:∀b o,a0=⟨b,o,none⟩→a=⟨b,o+j,none⟩)
  (hx:xs[j]? =some (k.val x)) (h:Tr ρ0 ρ L (f x) Post):Tr ρ0 ρ L (xY (Sat ρ M) k a f) Post:=fun hle w hw=>by
 refine⟨x,fun w' hw'=>?_,h hle w hw⟩;rcases(hw'.perm t.perm).sl with ⟨g1,_⟩|⟨b,off,pre,rest,g1,g2,g3,g4,g5,g6⟩;·rw[hs]at g1;cases g1
 ·rw[hs]at g1;injection g1 with g1;obtain⟨ty,hb⟩:=g6.cl;rw[ha b off g1];apply cell_of hb;grind
end Go.Gl
namespace Go.Proofs.YtjginndmmlkjiaaGreat
section
open Go Go.Gl
variable{ρ0 ρ:FR}{L L':List aD}{Post:Value→List aD→Prop}{T:Tree}
theorem JE(s:av)(l:List Int)(hl:l.length<2^62)(x:Int):Gl.Spec ρ Tryz.prog 33 [.slice s.a s.n s.c,i64 x] [aw s 1 (l.map i64)] RB fun r M=>r=decide (x∈l)∧M=[aw s 1 (l.map i64)]:=by refine Spec.post (Spec.own fun ρ1 _ r1=>Bm s l r1 hl x) fun r M h=>?_;grind
theorem gR{b:Nat}(h:HP)(H:au b [] h):aw ⟨oA b,0,0⟩ 1 (([]:List Int).map i64) h:=aw.nI rfl h H
theorem EC(p hp:Nat)(S:aJ)(lc:List (aX×av))(hw:aY S (dK lc))(wa pe:List Int)(hl:wa.length<2^39)(a:Int):Gl.Spec ρ Zp 58 [pA p,i64 a] [cn p hp wa pe,ct hp S lc] R1
  fun r M=>r=(Ob.final S a).1∧M=[cn p hp (if(Ob.final S a).1=0 then wa++[a]else wa) pe,ct hp (Ob.final S a).2 lc]:=by
 refine So (F.aa.cj.uB.calls _ a) fun R=>af (cn.op tk fun s z hs hz=>?_);refine iL<|cE (FV _ S _ hw a)<|ag (fun h=>?_) (fun h=>?_)
 ·have h':(Ob.final S a).1=0:=by simpa using h
  rw[if_pos h',h'];refine aq fun b4=>Tr.imp tk gR<|af<|iL<|bj (s:=⟨oA b4,0,0⟩) cx tk (Rd.sl tk (by rw[List.length_map];omega)) (by show 0+_<_;omega) fun v1 hv1=>dm bJ tk (by rw[List.nil_append];omega) fun v2 hv2=>af<|cz (off:=1) bL tk bu rfl<|tD (aw s 1 _) ?_;rw[List.nil_append]at hv2⊢;refine tC (cn.cl (wa:=wa++[a]) (by rw[hv2,List.length_append];rfl) hz) ?_;exact rT
 ·have h':(Ob.final S a).1≠0:=by simpa using h
  rw[if_neg h'];refine tC (cn.cl hs hz) ?_;exact rT
theorem IQ(p hp:Nat)(wa pe:List Int)(hl:pe.length<2^38)(i:Int):Gl.Spec ρ Zp 80 [pA p,i64 i] [cn p hp wa pe] G2
  fun r M=>r=((Fn.gJ pe i).1,(Fn.gJ pe i).2,())∧M=[cn p hp wa (Fn.eX pe i)]:=by
 refine So (F.aa.cj.Take.calls _ i) fun R=>aq fun b1=>?_;rw[gk];have bad:¬_→Fn.gJ pe i=_∧Fn.eX pe i=pe:=fun h=>⟨if_neg h,if_neg h⟩;refine ag (fun h=>?_) (fun h=>?_);·have h:=oT h;obtain⟨e1,e2⟩:=bad ae;rw[e1,e2];refine iT ?_;exact aN (x:=(_,_,())) [] rfl tk rfl<|rT
 have h:=oF h;refine af (cn.op tk fun s z hs hz=>?_);refine iL<|ag (fun h2=>?_) (fun h2=>?_);·have h2:=oT h2;obtain⟨e1,e2⟩:=bad ae;rw[e1,e2];refine tC (cn.cl hs hz) ?_;refine iT ?_;exact aN (x:=(_,_,())) [] rfl tk rfl<|rT
 have h2:=oF h2;have hi:0≤i∧i<pe.length:=by omega
 have e1:Fn.gJ pe i=_:=if_pos hi;have e2:Fn.eX pe i=pe.eraseIdx i.toNat:=if_pos hi;rw[e1,e2];obtain⟨k,rfl⟩:=Int.eq_ofNat_of_zero_le hi.1;refine Tr.fA (s:=z) tk fun _ hcap=>af<|iL ?_;refine bt tk ae ae<|aA (aK [au p [pA hp,.slice _ _ s.c,.slice _ _ z.c]] ar ?_);refine af (hS p 2 z ?_);refine ei ae ae ae<|af (hS p 2 z ?_);rw[bG (n:=(k:Int)+1)];apply ei ae ae ae;rw[show(((z.n:Nat):Int)).toNat-((k:Int)+1).toNat=pe.length-(k+1) by omega];refine aq fun b15=>aS ar<|Tr.imp tk gR ?_;have q1:((pe.drop 0).take (k-0)).length=k:=by simp;omega
 have q2:((pe.drop (k+1)).take (pe.length-(k+1))).length=pe.length-(k+1):=by simp
 refine bj (s:=⟨oA b15,0,0⟩) cx tk (Rd.part (lo:=0) (hi:=k) tk ae ae) (by rw[q1];show 0+k<_;omega) fun v1 hv1=>cK<|bj cx tk (Rd.part (lo:=k+1) tk ae ae) (by rw[q2,List.nil_append,q1];omega) fun v2 hv2=>?_;have e3:[]++(pe.drop 0).take (k-0)++(pe.drop (k+1)).take (pe.length-(k+1))=pe.eraseIdx k:=by rw[List.eraseIdx_eq_take_drop_succ,List.nil_append,List.drop_zero,Nat.sub_zero,List.take_of_length_le (i:=pe.length-(k+1)) (by rw[List.length_drop];omega)]
 rw[←List.length_append,e3]at hv2;rw[e3];refine af<|cz (off:=2) bL tk bu rfl<|tD (aw z 1 _) ?_;refine tC (cn.cl hs hv2) ?_;refine iT ?_;exact aN (x:=(pe.getD k 0,_,())) [] rfl tk rfl<|rT
theorem aI.ly{B:aD}:∀{L M R:List aD},aI L M R→aI (B::L) M (B::R)
 |_,_,_,.nil=> .nil
 |_,_,_,.cons h hs=> .cons (.skip h) hs.ly
theorem A7{A:List aD}(s:av)(l:List Int)(ro:Rd ρ A s 1 (l.map i64))(hl:l.length<2^38)(x:Int):Gl.Spec ρ Zp 191 [bY s,i64 x] A RS
  fun r M=>r.n=(l.filter (· != x)).length∧M=aw r 1 ((l.filter (· != x)).map i64)::A:=by
 refine So (F.aa.qK.calls s x) fun R=>?_;have hn:s.n=l.length:=by have:=ro.1;rw[List.length_map,Nat.mul_one]at this;exact this.symm
 refine Tr.cg 1<|aM (I:=fun m u M=>∃(j:Nat) (t:av),j≤l.length∧m=l.length-j∧u=(t,(j:Int),())∧t.n=((l.take j).filter (· != x)).length∧M=aw t 1 (((l.take j).filter (· != x)).map i64)::_) l.length ⟨0,_,ae,rfl,rfl,rfl,rfl⟩ ?_;rintro m _ _ ⟨j,t,hj,rfl,rfl,ht,rfl⟩ X hX;have hfl:=List.length_filter_le (· != x) (l.take j);rw[List.length_take]at hfl;refine ag (fun hc=>?_) (fun hc=>?_)
 ·have hc:(j:Int)<s.n:=oT hc;have hjl:j<l.length:=by omega
  have go:∀{f:Int→Tree} {PP:Value→List aD→Prop},Tr ρ ρ (aw t 1 (((l.take j).filter (· != x)).map i64)::(A++R)) (f (l.getD j 0)) PP→Tr ρ ρ (aw t 1 (((l.take j).filter (· != x)).map i64)::(A++R)) (ix s.a s.n (j:Int) 1 fun a=>ld (.l kI) a f) PP:=fun h=>by exact jg ro (aI.app A R).ly ae ae<|h
  have ef:(l.take (j+1)).filter (· != x)=(l.take j).filter (· != x)++if(l.getD j 0 != x)=true then[l.getD j 0]else[]:=by
   rw[aE 0 hjl,List.filter_append];by_cases h:(l.getD j 0 != x)=true;·rw[List.filter_cons_of_pos (p:=fun y=>y != x) h,if_pos h];rfl
   ·rw[List.filter_cons_of_neg (p:=fun y=>y != x) h,if_neg h];rfl
  rw[bG (n:=(j:Int)+1)];refine go<|ag (fun h=>?_) (fun h=>?_);·apply go;rw[if_pos h]at ef;refine dm bJ tk ae fun r hr=>hX _ _ _ ae ⟨j+1,r,ae,rfl,rfl,by rw[ef,List.length_append];exact hr,by rw[ef]⟩
  ·rw[if_neg (by rw[h];simp),List.append_nil]at ef;exact hX _ _ _ ae ⟨j+1,t,ae,rfl,rfl,by rw[ef];exact ht,by rw[ef]⟩
 ·have hc:¬(j:Int)<s.n:=oF hc;rw[List.take_of_length_le ae]at ht⊢;exact ax rfl ⟨ht,rfl⟩ (aI.app (_::A) R) bE
theorem DM{wa pe:List Int}(hn:wa.Nodup)(a:Int):Fn.cF (wa,pe) a=if a∈wa then(wa.filter (· != a),pe++[a])else(wa,pe):=by
 unfold Fn.cF;by_cases h:a∈wa;·have e:wa.eraseIdx _=wa.erase a:=List.erase_eq_eraseIdx_of_idxOf rfl |>.symm;rw[e,hn.erase_eq_filter]
 grind
theorem F9{x:List Int×List Int}(hn:x.1.Nodup)(a:Int):(Fn.cF x a).1.Nodup:=by unfold Fn.cF;grind
theorem Jm(l:List Int):∀{x:List Int×List Int},x.1.Nodup→(l.foldl Fn.cF x).1.Nodup:=by
 induction l with
 |nil=>exact fun h=>h
 |cons a l ih=>exact fun h=>ih (F9 h a)
theorem HG(p hp:Nat)(wa pe:List Int)(hnd:wa.Nodup)(z:av)(l:List Int)(ro:fx ρ z 1 (l.map i64))(hl:wa.length+pe.length+l.length<2^38):Gl.Spec ρ Zp 133 [pA p,bY z] [cn p hp wa pe] (.many [])
  fun _ M=>M=[cn p hp (Fn.ka wa pe l).1 (Fn.ka wa pe l).2]:=by
 refine So (F.aa.cj.ve.calls _ z) fun R=>?_;have hzn:=ro.len;apply aM (I:=fun m u M=>∃j:Nat,j≤l.length∧m=l.length-j∧u=((j:Int),())∧M=cn p hp (Fn.ka wa pe (l.take j)).1 (Fn.ka wa pe (l.take j)).2::R) l.length ⟨0,ae,rfl,rfl,rfl⟩;rintro m _ _ ⟨j,hj,rfl,rfl,rfl⟩ X hX;refine ag (fun hc=>?_) (fun hc=>?_)
 ·have hc:(j:Int)<z.n:=oT hc;have hjl:j<l.length:=by omega
  obtain⟨b1,b2⟩:=Fn.lg (l.take j) (wa,pe);rw[List.length_take,Nat.min_eq_left ae]at b2;have hnd1:=Jm (l.take j) (x:=(wa,pe)) hnd;have es:Fn.ka wa pe (l.take (j+1))=Fn.cF (Fn.ka wa pe (l.take j)) (l.getD j 0):=by unfold Fn.ka;rw[aE 0 hjl,List.foldl_append];rfl
  change(Fn.ka wa pe (l.take j)).1.length≤wa.length at b1;change(Fn.ka wa pe (l.take j)).2.length≤pe.length+j at b2;change(Fn.ka wa pe (l.take j)).1.Nodup at hnd1;generalize Fn.ka wa pe (l.take j)=y at*;obtain⟨y1,y2⟩:=y;dsimp only at b1 b2 hnd1 es⊢;rw[DM hnd1]at es;refine aA (af (cn.op tk fun s zz hs hz=>?_));refine iL<|cC ro ae ae ?_;rw[Int.toNat_natCast,bG (n:=(j:Int)+1)];generalize hga:l.getD j 0=a at*;refine cE (JE s y1 ae a)<|ag (fun h=>?_) (fun h=>?_)
  ·have h:=oT h;rw[if_pos h]at es;have hgl:=hga;refine aA (aK [au p [pA hp,.slice _ _ s.c,.slice _ _ zz.c]] ar ?_);refine af (hS p 1 s ?_);apply fO ro ae ae;rw[Int.toNat_natCast,hgl];refine ai (A7 s y1 (Rd.sl .here (by rw[List.length_map];omega)) ae a) ar ?_;rintro r _ ⟨hr,rfl⟩;refine af<|cz (off:=1) bL tk bu rfl<|tD (aw s 1 _)<|Tr.take (A:=au p [pA hp,.slice _ _ r.c,.slice _ _ zz.c]) tk<|aA (aK [au p [pA hp,.slice _ _ r.c,.slice _ _ zz.c]] ar ?_);refine af (hS p 2 _ ?_);apply fO ro ae ae;rw[Int.toNat_natCast,hgl];have fin:∀(v:av) {LL:List aD},v.n=([]++y2).length+1→LL.Perm (au p (cH [pA hp,.slice r.a r.n r.c,.slice zz.a zz.n zz.c] 2 [.slice v.a v.n v.c])::aw r 1 ((y1.filter (· != a)).map i64)::aw v 1 (([]++y2++[a]).map i64)::R)→Tr ρ ρ LL (X ((j:Int)+1,())) (SP (.many []) (fun _ M=>M=[cn p hp (Fn.ka wa pe l).1 (Fn.ka wa pe l).2]) R):=fun v LL hv hp2=>by refine Tr.perm hp2 ?_;rw[List.nil_append]at hv⊢;exact tC (cn.cl (pe:=y2++[a]) hr (by rw[hv,List.length_append];rfl))<|hX _ _ _ ae ⟨j+1,ae,rfl,rfl,by rw[es]⟩
   refine cr ?_ ?_
   ·refine aq fun b8=>aS ar<|Tr.imp tk gR<|cr ?_ ?_;·refine bj (s:=⟨oA b8,0,0⟩) cx tk (Rd.sl tk (by rw[List.length_map];omega)) (by show 0+_<_;omega) fun v1 hv1=>aS ar<|aq fun b9=>aS ar<|bj (x:=⟨oA b9,1,1⟩) (ys:=[a]) cx tk (Rd.cl tk rfl rfl) (by rw[List.nil_append];show _+1<_;omega) fun v2 hv2=>af<|cz (off:=2) bL tk bu rfl<|tD (aw zz 1 _) ?_;refine tD (au _ [i64 a]) ?_;exact fin _ hv2 (aI.perm (M:=[au p _,aw r 1 _,aw _ 1 _]) ar)
    ·refine aq fun b9=>aS ar<|bj (s:=⟨oA b8,0,0⟩) cx tk (Rd.sl tk (by rw[List.length_map];omega)) (by show 0+_<_;omega) fun v1 hv1=>aS ar<|bj (x:=⟨oA b9,1,1⟩) (ys:=[a]) cx tk (Rd.cl tk rfl rfl) (by rw[List.nil_append];show _+1<_;omega) fun v2 hv2=>af<|cz (off:=2) bL tk bu rfl<|tD (aw zz 1 _) ?_;refine tD (au _ [i64 a]) ?_;exact fin _ hv2 (aI.perm (M:=[au p _,aw r 1 _,aw _ 1 _]) ar)
   ·refine aq fun b9=>aS ar<|aq fun b8=>aS ar<|Tr.imp tk gR<|bj (s:=⟨oA b8,0,0⟩) cx tk (Rd.sl tk (by rw[List.length_map];omega)) (by show 0+_<_;omega) fun v1 hv1=>aS ar<|bj (x:=⟨oA b9,1,1⟩) (ys:=[a]) cx tk (Rd.cl tk rfl rfl) (by rw[List.nil_append];show _+1<_;omega) fun v2 hv2=>af<|cz (off:=2) bL tk bu rfl<|tD (aw zz 1 _) ?_;refine tD (au _ [i64 a]) ?_;exact fin _ hv2 (aI.perm (M:=[au p _,aw r 1 _,aw _ 1 _]) ar)
  ·have h:=oF h;rw[if_neg h]at es;exact tC (cn.cl hs hz)<|hX _ _ _ ae ⟨j+1,ae,rfl,rfl,by rw[es]⟩
 ·have hc:¬(j:Int)<z.n:=oF hc;rw[List.take_of_length_le ae];exact rT rfl
def bO(p hp:Nat)(rows:List (List Int))(bb:Int):aD:=fun h=>∃i:av×List nM,(i.1.n=i.2.length∧i.2.map (·.2)=rows)∧star [au p [pA hp,bY i.1,i64 bb],aw i.1 1 (i.2.map gz),star (i.2.map lL)] h
theorem bO.op{p hp:Nat}{rows:List (List Int)}{bb:Int}(t:Take L (bO p hp rows bb) L')(h:∀(z:av) (l:List nM),z.n=l.length→l.map (·.2)=rows→Tr ρ0 ρ (au p [pA hp,bY z,i64 bb]::aw z 1 (l.map gz)::star (l.map lL)::L') T Post):Tr ρ0 ρ L T Post:=
 Tr.iW (M:=fun i:av×List nM=>[au p [pA hp,bY i.1,i64 bb],aw i.1 1 (i.2.map gz),star (i.2.map lL)]) (c:=fun i=>i.1.n=i.2.length∧i.2.map (·.2)=rows) t (fun _ h=>h) (fun i hi=>h i.1 i.2 hi.1 hi.2)
theorem bO.cl{p hp:Nat}{rows:List (List Int)}{bb:Int}{z:av}{l:List nM}(hz:z.n=l.length)(hl:l.map (·.2)=rows)(h:HP)(H:star [au p [pA hp,bY z,i64 bb],aw z 1 (l.map gz),star (l.map lL)] h):bO p hp rows bb h:=⟨(z,l),⟨hz,hl⟩,H⟩
abbrev yT:nM:=(⟨none,0,0⟩,[])
theorem yv{l:List nM}{k:Nat}(hk:k<l.length):l=l.take k++l.getD k yT::l.drop (k+1):=by simp_all
theorem KL{l:List nM}{k:Nat}(hk:k<l.length)(y:nM):l.set k y=l.take k++y::l.drop (k+1):=by rw[List.set_eq_take_append_cons_drop,if_pos hk]
theorem pE{l:List nM}{rows:List (List Int)}(hl:l.map (·.2)=rows)(k:Nat):(l.getD k yT).2=rows.getD k []:=by grind
theorem Tr.sp{l:List nM}{k:Nat}(hk:k<l.length)(t:Take L (star (l.map lL)) L')(h:Tr ρ0 ρ (lL (l.getD k yT)::star ((l.take k++l.drop (k+1)).map lL)::L') T Post):Tr ρ0 ρ L T Post:=by rw[yv hk]at t;exact Tr.HA t h
theorem JK{l:List nM}{k:Nat}(hk:k<l.length)(y:nM)(h:HP)(H:star [lL y,star ((l.take k++l.drop (k+1)).map lL)] h):star ((l.set k y).map lL) h:=by rw[KL hk];exact dR h H
theorem tM{l:List nM}{k:Nat}(hk:k<l.length)(h:HP)(H:star [lL (l.getD k yT),star ((l.take k++l.drop (k+1)).map lL)] h):star (l.map lL) h:=by rw[yv hk];exact dR h H
theorem Bh(p hp:Nat)(rows:List (List Int))(bb i:Int):Gl.Spec ρ Zp 126 [pA p,i64 i] [bO p hp rows bb] RB fun r M=>r=Qu.has rows i∧M=[bO p hp rows bb]:=by
 refine So (F.aa.Refs.has.calls _ i) fun R=>ag (fun h=>?_) (fun h=>?_)
 ·have h:=oT h;refine af (bO.op tk fun z l hz hl=>?_);refine iL<|tC (bO.cl hz hl) ?_;have e:Qu.has rows i=decide (i<(z.n:Nat)):=by unfold Qu.has;rw[decide_eq_decide,hz,←hl,List.length_map];omega
  rw[e];exact rT
 ·have h:=oF h;have e:Qu.has rows i=false:=by unfold Qu.has;rw[decide_eq_false_iff_not];omega
  rw[e];exact rT
theorem Cz(p hp:Nat)(S:aJ)(lc:List (aX×av))(hw:aY S (dK lc))(rows:List (List Int))(bb a:Int):Gl.Spec ρ Zp 128 [pA p,i64 a] [bO p hp rows bb,ct hp S lc] RB fun r M=>r=Qu.bR S a∧M=[bO p hp rows bb,ct hp S lc]:=by
 refine So (F.aa.Refs.is.calls _ a) fun R=>af (bO.op tk fun z l hz hl=>?_);refine iL<|tC (bO.cl hz hl) ?_;refine cE (ib _ S _ hw a)<|aq fun b4=>?_;rw[vz];unfold Qu.bR;cases hh:Ob.head S a with
 |none=>refine iT<|aT bL tk rfl<|bF ?_;exact rT
 |some hd=>refine iT<|aT bL tk rfl<|bT<|aT bL tk rfl ?_;exact rT
theorem Ht(p hp:Nat)(rows:List (List Int))(bb:Int)(hr:rows.length≤8):Gl.Spec ρ Zp 55 [pA p] [bO p hp rows bb] G2
  fun r M=>r=(if rows.length=8 then((0:Int),(3:Int),())else(((rows.length:Nat):Int),(0:Int),()))∧M=[bO p hp (if rows.length=8 then rows else rows++[[]]) bb]:=by
 refine So (F.aa.Refs.Open.calls _) fun R=>aq fun b1=>?_;rw[gk];refine af (bO.op tk fun z l hz hl=>?_);have hll:l.length=rows.length:=by rw[←hl,List.length_map]
 refine iL<|ag (fun h=>?_) (fun h=>?_);·have h:=oT h;rw[if_pos ae,if_pos ae];refine tC (bO.cl hz hl) ?_;refine iT ?_;exact aN (x:=(_,_,())) [] rfl tk rfl<|rT
 ·have h:=oF h;rw[if_neg ae,if_neg ae];refine af<|iL<|aq fun b6=>eu (x:=⟨oA b6,1,1⟩) w8 tk (Rd.cl tk rfl rfl) rfl bq bq fun v hv=>tD (au _ [.slice _ 0 0])<|af ?_;refine cz (off:=1) bL tk bu rfl<|af<|lS p 1 v<|Tr.cg 1<|Tr.close (M:=[aw ⟨none,0,0⟩ 1 [],star _]) ar (fun h H=>dR (P:=lL) (l1:=l) (l2:=[]) (x:=yT) h (by rw[List.append_nil];exact H)) ?_;rw[show l.map gz++[.slice none 0 0]=(l++[yT]).map gz by rw[List.map_append];rfl];refine tC (bO.cl (rows:=rows++[[]]) (l:=l++[yT]) (by rw[hv,hz,List.length_append];rfl) (by rw[List.map_append,hl];rfl)) ?_;have e:IntKind.wrap .i64 (((v.n:Nat):Int)-1)=((rows.length:Nat):Int):=by have:v.n=z.n+1:=hv;rw[bG];omega
  rw[e];refine iT ?_;exact aN (x:=((rows.length:Int),_,())) [] rfl tk rfl<|rT
theorem Jv(p hp:Nat)(S:aJ)(lc:List (aX×av))(hw:aY S (dK lc))(rows:List (List Int))(hrl:∀r∈rows,r.length<2^30)(bb i a:Int):Gl.Spec ρ Zp 129 [pA p,i64 i,i64 a] [bO p hp rows bb,ct hp S lc] R1
  fun _ M=>M=[bO p hp (Qu.dN S rows i a) bb,ct hp (Qu.bP S rows i a) lc]:=by
 refine So (F.aa.Refs.pc.calls _ i a) fun R=>cE (Bh p _ _ _ i)<|ag (fun h=>?_) (fun h=>?_)
 ·have h':Qu.has rows i=false:=by simpa using h
  have e2:Qu.dN S rows i a=rows:=by unfold Qu.dN;rw[h'];rfl
  have e3:Qu.bP S rows i a=S:=by unfold Qu.bP;rw[h'];rfl
  rw[e2,e3];exact rT rfl
 have h':Qu.has rows i=true:=by simpa using h
 refine cE (Cz p _ S _ hw _ _ a)<|ag (fun h2=>?_) (fun h2=>?_)
 ·have h2:Qu.bR S a=false:=by simpa using h2
  have e2:Qu.dN S rows i a=rows:=by unfold Qu.dN;rw[h2,Bool.and_false];rfl
  have e3:Qu.bP S rows i a=S:=by unfold Qu.bP;rw[h2,Bool.and_false];rfl
  rw[e2,e3];exact rT rfl
 have h2:Qu.bR S a=true:=by simpa using h2
 obtain⟨hi0,hi1⟩:=jo h';obtain⟨k,rfl⟩:=Int.eq_ofNat_of_zero_le hi0;have hrow:Qu.row rows k=rows.getD k []:=by unfold Qu.row;rw[Int.toNat_natCast]
 have eQ:Qu.dN S rows k a=rows.set k (rows.getD k []++[a]):=by unfold Qu.dN;rw[h',h2,hrow,Int.toNat_natCast];rfl
 have eS:Qu.bP S rows k a=if rows.getD k []=[]then(Ob.put S a 2 0).2 else(Ob.put (Ob.put S a 2 0).2 ((rows.getD k []).getLastD 0) 2 a).2:=by unfold Qu.bP;rw[h',h2,hrow];rfl
 rw[eQ,eS];have hlen:(rows.getD k []).length<2^30:=hrl _ (by exact ku h');refine af (bO.op tk fun z l hz hl=>?_);have hll:l.length=rows.length:=by rw[←hl,List.length_map]
 have hxr:=pE hl k;have hkl:k<l.length:=by omega
 have hcell:=iA hkl;refine iL<|cE (kb _ S _ hw a 2 0) ?_;have hw1:=hw.put a 2 0;refine Tr.sp hkl tk ?_;generalize hx:l.getD k yT=x at*;refine Tr.fu tk fun hxn=>?_;have hp0:∀y:av,((l.set k (y,x.2++[a])).map gz)=cH (l.map gz) k [.slice y.a y.n y.c]:=fun y=>by rw[List.map_set];rfl
 have hrw:∀y:av,(l.set k (y,x.2++[a])).map _=rows.set k (x.2++[a]):=fun y=>by rw[List.map_set,hl]
 rw[←hxr];refine iV (fun _ M=>M=[au p [pA hp,bY z,i64 bb],aw z 1 (l.map gz),lL x,star ((l.take k++l.drop (k+1)).map lL),ct hp (if x.2=[]then(Ob.put S a 2 0).2 else(Ob.put (Ob.put S a 2 0).2 (x.2.getLastD 0) 2 a).2) lc]++R) ?_ ?_
 ·rintro _ _ rfl;refine aA (aK [au p [pA hp,bY z,i64 bb],aw z 1 _] ar ?_);refine af (hS p 1 z ?_);refine af (hS p 1 z ?_);refine bD tk ae ae fun y0 hy0=>yx hy0 tk fX hcell ?_;have fin:∀(v:av) {LL:List aD},v.n=([]++x.2).length+1→LL.Perm ([au p [pA hp,bY z,i64 bb],aw z 1 (l.map gz),aw v 1 (([]++x.2++[a]).map i64),star ((l.take k++l.drop (k+1)).map lL),ct hp (if x.2=[]then(Ob.put S a 2 0).2 else(Ob.put (Ob.put S a 2 0).2 (x.2.getLastD 0) 2 a).2) lc]++R)→
    Tr ρ ρ LL (ix z.a z.n (k:Int) 1 fun a19=>st a19 [.slice v.a v.n v.c] (ret (.int .i64 0))) (SP R1 (fun _ M=>M=[bO p hp (rows.set k (x.2++[a])) bb,ct hp (if x.2=[]then(Ob.put S a 2 0).2 else(Ob.put (Ob.put S a 2 0).2 (x.2.getLastD 0) 2 a).2) lc]) R):=fun v LL hv hp2=>by refine Tr.perm hp2<|bD tk ae ae fun y1 hy1=>iR (j:=k) hy1 tk fX (by rw[List.length_map];show k+1≤_;omega) rfl ?_;rw[←hp0 v];refine Tr.close ar (JK hkl (v,x.2++[a]))<|tC (bO.cl (by rw[List.length_set];exact hz) (hrw v)) ?_;exact rT rfl
  have hxl:x.2.length<2^30:=by rw[hxr];exact hlen
  refine cr ?_ ?_
  ·refine aq fun b8=>aS ar<|Tr.imp tk gR<|cr ?_ ?_;·refine bj (s:=⟨oA b8,0,0⟩) cx tk (Rd.sl tk (by rw[List.length_map];omega)) (by show 0+_<_;omega) fun v1 hv1=>aS ar<|aq fun b9=>aS ar<|bj (x:=⟨oA b9,1,1⟩) (ys:=[a]) cx tk (Rd.cl tk rfl rfl) (by rw[List.nil_append];show _+1<_;omega) fun v2 hv2=>aS ar<|tD (lL x) ?_;refine tD (au _ [i64 a]) ?_;exact fin _ hv2 (aI.perm ar)
   ·refine aq fun b9=>aS ar<|bj (s:=⟨oA b8,0,0⟩) cx tk (Rd.sl tk (by rw[List.length_map];omega)) (by show 0+_<_;omega) fun v1 hv1=>aS ar<|bj (x:=⟨oA b9,1,1⟩) (ys:=[a]) cx tk (Rd.cl tk rfl rfl) (by rw[List.nil_append];show _+1<_;omega) fun v2 hv2=>aS ar<|tD (lL x) ?_;refine tD (au _ [i64 a]) ?_;exact fin _ hv2 (aI.perm ar)
  ·refine aq fun b9=>aS ar<|aq fun b8=>aS ar<|Tr.imp tk gR<|bj (s:=⟨oA b8,0,0⟩) cx tk (Rd.sl tk (by rw[List.length_map];omega)) (by show 0+_<_;omega) fun v1 hv1=>aS ar<|bj (x:=⟨oA b9,1,1⟩) (ys:=[a]) cx tk (Rd.cl tk rfl rfl) (by rw[List.nil_append];show _+1<_;omega) fun v2 hv2=>aS ar<|tD (lL x) ?_;refine tD (au _ [i64 a]) ?_;exact fin _ hv2 (aI.perm ar)
 ·intro J hJ;refine af<|iL ?_;refine bD tk ae ae fun y0 hy0=>cw hy0 tk fX hcell<|ag (fun h3=>?_) (fun h3=>?_)
  ·have h3:=oT h3;have hne:x.2≠[]:=fun e=>by rw[e]at hxn;rw[hxn]at h3;simp at h3
   rw[if_neg hne]at hJ⊢;refine aA (af ?_);refine iL<|af<|iL ?_;refine bD tk ae ae fun y1 hy1=>cw hy1 tk fX hcell ?_;rw[wrap64 (n:=((x.1.n:Nat):Int)-1) ae (by rw[hxr]at hxn;omega)];apply bt tk ae ae;have el:x.2.getD (((x.1.n:Nat):Int)-1).toNat 0=x.2.getLastD 0:=by
    rw[show(((x.1.n:Nat):Int)-1).toNat=x.2.length-1 by omega];match x.2,hne with
    |y::ys,_=>rw[List.getLastD_cons,List.getD_eq_getElem?_getD,List.getLastD_eq_getLast?,←List.getLast?_eq_getElem?,List.getLast?_cons];simp
   rw[el];apply cE (kb _ (Ob.put S a 2 0).2 _ hw1 _ 2 a);exact tP [au p [pA hp,bY z,i64 bb],aw z 1 _,lL x,star _,ct _ (Ob.put (Ob.put S a 2 0).2 _ 2 a).2 lc] (hJ () _ rfl)
  ·have h3:=oF h3;have he:x.2=[]:=List.eq_nil_of_length_eq_zero ae;rw[if_pos he]at hJ⊢;exact tP [au p [pA hp,bY z,i64 bb],aw z 1 _,lL x,star _,ct _ (Ob.put S a 2 0).2 lc] (hJ () _ rfl)
theorem Cm(p hp:Nat)(S:aJ)(lc:List (aX×av))(hw:aY S (dK lc))(rows:List (List Int))(hrl:∀r∈rows,r.length<2^30)(bb i:Int):Gl.Spec ρ Zp 57 [pA p,i64 i] [bO p hp rows bb,ct hp S lc] G2
  fun r M=>r=((Qu.jA rows i).1,(Qu.jA rows i).2,())∧M=[bO p hp (Qu.fK rows i) bb,ct hp (Qu.dq S rows i) lc]:=by
 refine So (F.aa.Refs.Poll.calls _ i) fun R=>aq fun b1=>?_;rw[gk];refine cE (Bh p _ _ _ i)<|ag (fun h=>?_) (fun h=>?_)
 ·have h':Qu.has rows i=false:=by simpa using h
  have e1:Qu.jA rows i=(0,2):=by unfold Qu.jA;rw[h'];rfl
  have e2:Qu.fK rows i=rows:=by unfold Qu.fK;rw[h'];rfl
  have e3:Qu.dq S rows i=S:=by unfold Qu.dq;rw[h'];rfl
  rw[e1,e2,e3];refine iT ?_;exact aN (x:=(_,_,())) [] rfl tk rfl<|rT
 have h':Qu.has rows i=true:=by simpa using h
 obtain⟨hi0,hi1⟩:=jo h';obtain⟨k,rfl⟩:=Int.eq_ofNat_of_zero_le hi0;rw[Int.toNat_natCast]at hi1;have hrow:Qu.row rows k=rows.getD k []:=by unfold Qu.row;rw[Int.toNat_natCast]
 have hlen:(rows.getD k []).length<2^30:=hrl _ (by exact ku h');refine af (bO.op tk fun z l hz hl=>?_);have hll:l.length=rows.length:=by rw[←hl,List.length_map]
 have hxr:=pE hl k;have hkl:k<l.length:=by omega
 have hcell:=iA hkl;refine Tr.sp hkl tk ?_;generalize hx:l.getD k yT=x at*;refine Tr.fA tk fun hxn hxc=>?_;rw[List.length_map,Nat.mul_one]at hxn;refine iL ?_;refine bD tk ae ae fun y0 hy0=>cw hy0 tk fX hcell ?_;have e1:Qu.jA rows k=(x.2.headD 0,0):=by unfold Qu.jA;rw[if_pos h',hrow,←hxr]
 have e2:Qu.fK rows k=rows.set k x.2.tail:=by unfold Qu.fK;rw[if_pos h',hrow,←hxr,Int.toNat_natCast]
 refine ag (fun h3=>?_) (fun h3=>?_)
 ·have h3:(x.1.n:Int)=0:=by simpa using h3
  have he:x.2=[]:=List.eq_nil_of_length_eq_zero ae;have e3:Qu.dq S rows k=S:=by unfold Qu.dq;rw[if_neg (fun g=>g.2 (by rw[hrow,←hxr];exact he))]
  have e4:rows.set k x.2.tail=rows:=by
   rw[he];have:rows.getD k []=rows[k]:=by rw[List.getD_eq_getElem?_getD,List.getElem?_eq_getElem hi1];rfl
   have h5:rows[k]=[]:=by rw[←this,←hxr];exact he
   show rows.set k []=rows;conv=>lhs;rw[←h5]
   exact List.set_getElem_self _
  rw[e1,e2,e3,e4,he];refine Tr.close (M:=[lL x,star _]) ar (fun h H=>tM hkl h (by rw[hx];exact H))<|tC (bO.cl hz hl) ?_;refine iT ?_;exact aN (x:=(_,_,())) [] rfl tk rfl<|rT
 ·have h3:¬(x.1.n:Int)=0:=by simpa using h3
  have hne:x.2≠[]:=fun e=>by rw[e]at hxn;exact h3 (by rw[←hxn];rfl)
  have e3:Qu.dq S rows k=(Ob.put S (x.2.headD 0) 2 0).2:=by unfold Qu.dq;rw[if_pos ⟨h',by rw[hrow,←hxr];exact hne⟩,hrow,←hxr]
  rw[e1,e2,e3];have hxl:x.2.length<2^30:=by rw[hxr];exact hlen
  refine af<|iL ?_;refine bD tk ae ae fun y0 hy0=>cw hy0 tk fX hcell<|bt tk bd ae ?_;have eh:x.2.getD (0:Int).toNat 0=x.2.headD 0:=by
   match x.2,hne with
   |y::ys,_=>rfl
  rw[eh];refine aA (aK [au p [pA hp,bY z,i64 bb],aw z 1 _] ar ?_);refine af (hS p 1 z ?_);refine af (hS p 1 z ?_);refine bD tk ae ae fun y0 hy0=>yx hy0 tk fX hcell<|ei ae ae ae ?_;rw[show(((x.1.n:Nat):Int)).toNat-((1:Int)).toNat=x.2.length-1 by omega];refine aq fun b8=>aS ar<|Tr.imp tk gR ?_;have et:[]++(x.2.drop 1).take (x.2.length-1)=x.2.tail:=by rw[List.nil_append,List.take_of_length_le (by rw[List.length_drop];omega),List.drop_one]
  refine bj (s:=⟨oA b8,0,0⟩) cx tk (Rd.part (lo:=1) tk ae ae) fC fun v hv=>aS ar ?_;rw[et];refine bD tk ae ae fun y1 hy1=>iR (j:=k) hy1 tk fX (by rw[List.length_map];show k+1≤_;omega) rfl ?_;have hp0:cH (l.map gz) k [.slice v.a v.n v.c]=(l.set k (v,x.2.tail)).map gz:=by rw[List.map_set];rfl
  rw[hp0];refine iN<|cE (kb _ S _ hw _ 2 0) ?_;refine tD (lL x) ?_;refine Tr.close ar (JK hkl (v,x.2.tail))<|tC (bO.cl (rows:=rows.set k x.2.tail) (l:=l.set k (v,x.2.tail)) (by rw[List.length_set];exact hz) (by rw[List.map_set,hl])) ?_;refine iT ?_;exact aN (x:=(x.2.headD 0,_,())) [] rfl tk rfl<|rT
theorem Hg(p hp:Nat)(S:aJ)(lc:List (aX×av))(hw:aY S (dK lc))(rows:List (List Int))(bb c o q:Int):Gl.Spec ρ Zp 51 [pA p,i64 c,i64 o,i64 q] [bO p hp rows bb,ct hp S lc] R1
  fun r M=>r=Rf.may S rows c o q∧M=[bO p hp rows bb,ct hp S lc]:=by
 refine So (F.aa.Refs.vf.calls _ c o q) fun R=>?_;have last:(Rf.may S rows c o q=if(Ob.head S o).isNone then 2 else 0)→Tr ρ ρ ([bO p hp rows bb,ct hp S lc]++R) (nn (oA p) fun a1=>ld (.l .ptr) (fa a1 0) fun x2=>call Zp 123 [.pointer x2,.int .i64 o] HX fun r3=>br (!r3.2.2.2.2.1) (ret (.int .i64 2)) (ret (.int .i64 0))) (SP R1 (fun r M=>r=Rf.may S rows c o q∧M=[bO p hp rows bb,ct hp S lc]) R):=fun e=>by
  refine af (bO.op tk fun z l hz hl=>?_);refine iL<|tC (bO.cl hz hl) ?_;apply cE (ib _ S _ hw o);rw[e];cases hh:Ob.head S o with
  |none=>exact bT<|rT
  |some hd=>exact bF<|rT
 unfold Rf.may at last⊢;refine ag (fun h1=>?_) (fun h1=>?_);·have h1:=oT h1;rw[if_pos h1];exact rT
 have h1:=oF h1;rw[if_neg h1]at last⊢;refine ag (fun h2=>?_) (fun h2=>?_);·have h2:=oT h2;rw[if_pos h2];exact rT
 have h2:=oF h2;rw[if_neg h2]at last⊢;refine ag (fun h3=>?_) (fun h3=>?_)
 ·have h3:q≠-1:=by simpa using h3
  refine cE (Bh p _ _ _ q)<|ag (fun h4=>?_) (fun h4=>?_)
  ·have h4:Qu.has rows q=false:=by simpa using h4
   have h4:=oF h4;by_cases h5:q< -1;·rw[if_pos h5];exact rT
   ·rw[if_neg h5,if_pos ae];exact rT
  ·have h4:Qu.has rows q=true:=by simpa using h4
   have h4:=oT h4;rw[if_neg ae,if_neg ae]at last⊢;refine ag (fun h5=>?_) (fun h5=>?_);·apply ak (by simpa using h3);rw[if_neg ae]at last⊢;exact last rfl
   ·rw[if_neg ae]at last⊢;exact last rfl
 ·have h3:q= -1:=by simpa using h3
  subst h3;rw[if_neg ae,if_neg ae]at last⊢;refine ag (fun h5=>?_) (fun h5=>?_)
  ·have h5:c=3:=by simpa using h5
   rw[if_pos ⟨h5,by decide⟩];exact bT<|rT
  ·have h5:c≠3:=by simpa using h5
   rw[if_neg (fun g=>h5 g.1)]at last⊢;exact last rfl
theorem GY{S:aJ}{a i x:Int}(h:Ob.get S a i=(x,0)):(Ob.put S a i x).2=S:=by
 unfold Ob.get at h;unfold Ob.put;split at h;·grind
 ·rename_i g;rw[if_neg g];have:S.ws.set (Ob.fieldAt S a i).1.toNat x=S.ws:=by apply List.ext_getElem?;grind
  rw[this]
theorem GQ{S:aJ}{cs:List aX}(hw:aY S cs){c o q t n:Int}(h0:(Ob.make S cs ⟨4,c,5,false⟩).2.1=0):
  Rf.ja (Ob.make S cs ⟨4,c,5,false⟩).2.2 (Ob.make S cs ⟨4,c,5,false⟩).1 0 [o,q,0,t,n]=(Ob.put (Ob.put (Ob.put (Ob.put (Ob.make S cs ⟨4,c,5,false⟩).2.2 (Ob.make S cs ⟨4,c,5,false⟩).1 0 o).2 (Ob.make S cs ⟨4,c,5,false⟩).1 1 q).2 (Ob.make S cs ⟨4,c,5,false⟩).1 3 t).2 (Ob.make S cs ⟨4,c,5,false⟩).1 4 n).2:=by
 have hz:=Ob.o4 hw h0 (i:=2) bd bu;have hm:=Ob.jE hw h0;have hw1:=hw.make ⟨4,c,5,false⟩;generalize(Ob.make S cs ⟨4,c,5,false⟩).2.2=S1 at*;generalize(Ob.make S cs ⟨4,c,5,false⟩).1=a at*;have hr:Qu.bR S1 a=true:=by unfold Qu.bR;rw[hm];rfl
 have hw2:=hw1.put a 0 o;have e:(Ob.put (Ob.put (Ob.put S1 a 0 o).2 a 1 q).2 a 2 0).2=(Ob.put (Ob.put S1 a 0 o).2 a 1 q).2:=by apply GY;rw[cR hw2 (by rw[cQ hw1];exact hr) bd bd,if_neg bu,cR hw1 hr bd bd,if_neg bu];exact hz
 show(Ob.put (Ob.put (Ob.put (Ob.put (Ob.put S1 a 0 o).2 a 1 q).2 a 2 0).2 a 3 t).2 a 4 n).2=_;rw[e]
theorem Fa(p hp:Nat)(S:aJ)(lc:List (aX×av))(hw:aY S (dK lc))(rows:List (List Int))(bb c o q t:Int)(hn:0≤bb∧bb<2^50)(hrl:rows.length≤8):
  Gl.Spec ρ Zp 181 [pA p,i64 c,i64 o,i64 q,i64 t] [bO p hp rows bb,ct hp S lc] G2
  fun r M=>r=((Rf.bS S (dK lc) rows bb c o q t).1,(Rf.bS S (dK lc) rows bb c o q t).2.1,())∧M=[bO p hp rows (Rf.bS S (dK lc) rows bb c o q t).2.2.2,ct hp (Rf.bS S (dK lc) rows bb c o q t).2.2.1 lc]:=by
 refine So (F.aa.Refs.nG.calls _ c o q t) fun R=>aq fun b1=>?_;rw[gk];refine cE (Hg p _ S _ hw _ _ c o q)<|ag (fun h=>?_) (fun h=>?_)
 ·have h':Rf.may S rows c o q≠0:=by simpa using h
  have e:Rf.bS S (dK lc) rows bb c o q t=(0,Rf.may S rows c o q,S,bb):=by unfold Rf.bS;rw[if_pos h']
  rw[e];refine iT ?_;exact aN (x:=(_,Rf.may S _ c o q,())) [] rfl tk rfl<|rT
 have h':Rf.may S rows c o q=0:=by simpa using h
 have hq: -1≤q∧q<rows.length:=by
  unfold Rf.may at h';split at h';·cases h'
  ·split at h';·cases h'
   ·split at h';·cases h'
    ·split at h';·cases h'
     ·omega
 refine af (bO.op tk fun z l hz hl=>?_);refine iL<|cE (Cn _ S _ hw ⟨4,c,5,false⟩)<|aq fun b6=>iT ?_;refine Tr.take (A:=au _ [i64 (Ob.make S _ ⟨4,c,5,false⟩).1,i64 (Ob.make S _ ⟨4,c,5,false⟩).2.1]) tk<|iL<|ag (fun hm=>?_) (fun hm=>?_)
 ·have hm':(Ob.make S (dK lc) ⟨4,c,5,false⟩).2.1≠0:=by simpa using hm
  have e:Rf.bS S (dK lc) rows bb c o q t=(0,(Ob.make S (dK lc) ⟨4,c,5,false⟩).2.1,(Ob.make S (dK lc) ⟨4,c,5,false⟩).2.2,bb):=by unfold Rf.bS;rw[if_neg (fun g=>g h'),if_pos hm']
  have e0:=(Wl.ky hm').2;rw[e,e0];refine iG<|iT ?_;refine aN [] rfl tk rfl<|tC (bO.cl hz hl) ?_;exact rT
 have hm':(Ob.make S (dK lc) ⟨4,c,5,false⟩).2.1=0:=by simpa using hm
 have e:Rf.bS S (dK lc) rows bb c o q t=((Ob.make S (dK lc) ⟨4,c,5,false⟩).1,0,Rf.ja (Ob.make S (dK lc) ⟨4,c,5,false⟩).2.2 (Ob.make S (dK lc) ⟨4,c,5,false⟩).1 0 [o,q+1,0,t,bb+1],bb+1):=by unfold Rf.bS;rw[if_neg (fun g=>g h'),if_neg (fun g=>g hm')]
 rw[e,GQ hw hm',hm'];have hw1:=hw.make ⟨4,c,5,false⟩;generalize(Ob.make S (dK lc) ⟨4,c,5,false⟩).1=a at*;refine af<|iL<|af<|cz (off:=2) bL tk bu rfl ?_;rw[bG (n:=bb+1)];refine Tr.take (A:=au p [pA hp,bY z,i64 _]) tk<|aA (af ?_);refine iL<|iL<|cE (kb _ _ _ hw1 a 0 o) ?_;have hw2:=hw1.put a 0 o;refine aA (af ?_);refine iL<|iL ?_;rw[bG (n:=q+1)];apply cE (kb _ _ _ hw2 a 1 _);have hw3:=hw2.put a 1 (q+1);refine aA (af ?_);refine iL<|iL<|cE (kb _ _ _ hw3 a 3 t) ?_;have hw4:=hw3.put a 3 t;refine aA (af ?_);refine iL<|iL<|af<|iL<|cE (kb _ _ _ hw4 a 4 _) ?_;refine iG<|iT ?_;refine aN [] rfl tk rfl<|tC (bO.cl hz hl) ?_;exact rT
theorem yG(p hp:Nat)(S:aJ)(lc:List (aX×av))(hw:aY S (dK lc))(rows:List (List Int))(bb:Int)(z:av)(l:List Int)(ro:fx ρ z 1 (l.map i64))(hl:l.length<2^40):
  Gl.Spec ρ Zp 53 [pA p,bY z] [bO p hp rows bb,ct hp S lc] R1
  fun r M=>r=(Rf.clear S l).1∧M=[bO p hp rows bb,ct hp (Rf.clear S l).2 lc]:=by
 refine So (F.aa.Refs.Clear.calls _ z) fun R=>?_;have hzn:=ro.len;apply aM (I:=fun m u M=>∃j:Nat,j≤l.length∧m=l.length-j∧u=((j:Int),())∧(∀i,i<j→Qu.bR S (l.getD i 0)=true)∧M=bO p hp rows bb::ct hp S lc::R) l.length ⟨0,ae,rfl,rfl,fun i hi=>by omega,rfl⟩;rintro m _ _ ⟨j,hj,rfl,rfl,hall,rfl⟩ X hX;refine ag (fun hc=>?_) (fun hc=>?_)
 ·have hc:(j:Int)<z.n:=oT hc;apply cC ro ae ae;rw[Int.toNat_natCast,bG (n:=(j:Int)+1)];refine cE (Cz p _ S _ hw _ _ _)<|ag (fun h=>?_) (fun h=>?_)
  ·have h:Qu.bR S (l.getD j 0)=false:=by simpa using h
   have e:Rf.clear S l=(5,S):=by unfold Rf.clear;rw[if_neg];intro g;rw[List.all_eq_true]at g;have:=g (l.getD j 0) (by rw[List.getD_eq_getElem?_getD,List.getElem?_eq_getElem ae];exact List.getElem_mem _);rw[h]at this;cases this
   rw[e];exact rT
  ·have h:Qu.bR S (l.getD j 0)=true:=by simpa using h
   refine hX _ _ _ ae ⟨j+1,ae,rfl,rfl,fun i hi=>?_,rfl⟩;by_cases e:i=j;·subst e;exact h
   ·exact hall i ae
 ·have hc:¬(j:Int)<z.n:=oF hc;have e:Rf.clear S l=(0,Rf.iu S l):=by unfold Rf.clear;rw[if_pos];rw[List.all_eq_true];intro a ha;obtain⟨i,hi,rfl⟩:=List.mem_iff_getElem.mp ha;have:=hall i ae;rw[List.getD_eq_getElem?_getD,List.getElem?_eq_getElem hi]at this;exact this
  rw[e];apply aM (I:=fun m u M=>∃j:Nat,j≤l.length∧m=l.length-j∧u=((j:Int),())∧M=bO p hp rows bb::ct hp (Rf.iu S (l.take j)) lc::R) l.length ⟨0,ae,rfl,rfl,rfl⟩;rintro m _ _ ⟨j,hj,rfl,rfl,rfl⟩ Y hY;refine ag (fun hc=>?_) (fun hc=>?_);·have hc:(j:Int)<z.n:=oT hc;refine aA (af (bO.op tk fun zz l8 hz hl8=>?_));refine iL<|tC (bO.cl hz hl8)<|cC ro ae ae ?_;rw[Int.toNat_natCast,bG (n:=(j:Int)+1)];apply cE (kb _ _ _ (aY.iu hw) _ 0 0);rw[←z7,←wv ae];exact tP [bO p _ _ bb,ct _ _ lc] (hY _ _ _ ae ⟨j+1,ae,rfl,rfl,rfl⟩)
  ·have hc:¬(j:Int)<z.n:=oF hc;rw[List.take_of_length_le ae];exact rT
theorem Fx(p hp:Nat)(S:aJ)(lc:List (aX×av))(hw:aY S (dK lc))(rows:List (List Int))(hrl:∀r∈rows,r.length<2^30)(bb a:Int)(hrn:rows.length≤8)(hQ:QI S rows)(hq:Qu.bR S a=true→(Ob.get S a 1).1≤rows.length):
  Gl.Spec ρ Zp 54 [pA p,i64 a] [bO p hp rows bb,ct hp S lc] G2
  fun r M=>r=(if(Rf.dJ S rows a).1.1 then 1 else 0,(Rf.dJ S rows a).1.2,())∧M=[bO p hp (Rf.dJ S rows a).2.2 bb,ct hp (Rf.dJ S rows a).2.1 lc]:=by
 refine So (F.aa.Refs.lR.calls (oA p) a) fun R=>?_;unfold F.aa.Refs.lR;refine aq fun b1=>?_;rw[gk];refine cE (Cz p hp S lc hw rows bb a)<|ag (fun h=>?_) (fun h=>?_)
 ·have h:Qu.bR S a=false:=by simpa using h
  have e:Rf.dJ S rows a=((false,5),S,rows):=by unfold Rf.dJ;rw[h];rfl
  rw[e];apply sT b1 0;exact aN (b:=b1) (x:=((0:Int),(5:Int),())) [] rfl tk rfl<|rE ((0:Int),(5:Int),())
 have h:Qu.bR S a=true:=by simpa using h
 have hqa:=hq h;have hp1:∀{S:aJ} {rows:List (List Int)} {T:Option Addr→Tree} {L L':List aD},Take L (bO p hp rows bb) L'→Tr ρ ρ (bO p hp rows bb::L') (T (oA hp)) (SP G2 (fun r M=>r=(if(Rf.dJ S rows a).1.1 then 1 else 0,(Rf.dJ S rows a).1.2,())∧M=[bO p hp (Rf.dJ S rows a).2.2 bb,ct hp (Rf.dJ S rows a).2.1 lc]) R)→True:=fun _ _=>trivial;clear hp1;refine af (bO.op tk fun zz l8 hz hl8=>?_);refine lP p 0 hp<|tC (bO.cl (p:=p) (hp:=hp) (rows:=rows) (bb:=bb) (z:=zz) (l:=l8) hz hl8) ?_;apply cE (kb hp S lc hw a 0 0);have hw1:=hw.put a 0 0;refine af (bO.op tk fun zz l8 hz hl8=>?_);refine lP p 0 hp<|tC (bO.cl (p:=p) (hp:=hp) (rows:=rows) (bb:=bb) (z:=zz) (l:=l8) hz hl8) ?_;apply cE (kG hp (Ob.put S a 0 0).2 lc hw1 a 1);rw[show(Ob.get (Ob.put S a 0 0).2 a 1).1=Rf.qn S a from rfl];have hqn:Rf.qn S a=(Ob.get S a 1).1:=by unfold Rf.qn;rw[cR hw h (by decide) (by decide),if_neg (by simp)]
 refine ag (fun h1=>?_) (fun h1=>?_)
 ·have h1:Rf.qn S a<1:=oT h1;have e:Rf.dJ S rows a=((false,0),(Ob.put S a 0 0).2,rows):=by unfold Rf.dJ;rw[if_pos h,if_pos h1]
  rw[e];apply sT b1 0;exact aN (b:=b1) (x:=((0:Int),(0:Int),())) [] rfl tk rfl<|rE ((0:Int),(0:Int),())
 have h1:¬Rf.qn S a<1:=oF h1;have hh:Qu.has rows (Rf.qn S a-1)=true:=by unfold Qu.has;rw[decide_eq_true_iff];omega
 have H1:QI (Ob.put S a 0 0).2 rows:=hQ.put hw (.inl ⟨by decide,by decide⟩);have hr1:Qu.bR (Ob.put S a 0 0).2 a=true:=by rw[cQ hw];exact h
 obtain⟨_,p2,p3,_⟩:=H1.push hw1 hr1 (H1.GZ (by change Rf.qn S a≠-1;omega)) hh;have e:Rf.dJ S rows a=((true,0),(Ob.put (Qu.bP (Ob.put S a 0 0).2 rows (Rf.qn S a-1) a) a 1 (-1)).2,Qu.dN (Ob.put S a 0 0).2 rows (Rf.qn S a-1) a):=by unfold Rf.dJ;rw[if_pos h,if_neg h1,if_neg (fun g=>g p2)]
 rw[e,wrap64 (n:=Rf.qn S a-1) (by omega) (by omega)];refine ai (Jv p _ (Ob.put S a 0 0).2 _ hw1 _ hrl _ _ a) ar ?_;rintro _ _ rfl;refine af (bO.op tk fun zz l8 hz hl8=>?_);refine iL<|tC (bO.cl hz hl8) ?_;apply cE (kb _ _ _ p3 a 1 _);refine iT ?_;exact aN (x:=(_,_,())) [] rfl tk rfl<|rT
end
section
open Go Go.Gl
set_option maxRecDepth 100000
def F.aj.oU(p0:LTs [kI,kI,kI]):Tree:=nw 23 [i64 p0.1,i64 p0.2.1,i64 p0.2.2.1] fun b1=>dI (fa (aB b1) 0) fun x2=>br (decide ((x2:Int)≥1)) (dI (fa (aB b1) 0) fun x3=>br (decide ((x3:Int)≤256)) (dI (fa (aB b1) 1) fun x4=>br (decide ((x4:Int)≥0)) (dI (fa (aB b1) 2) fun x5=>br (decide ((x5:Int)≥1)) (dI (fa (aB b1) 2) fun x6=>ret (.bool (decide ((x6:Int)≤4096)))) (ret (.bool false))) (ret (.bool false))) (ret (.bool false))) (ret (.bool false))
theorem F.aj.oU.calls(p0:LTs [kI,kI,kI]):Cf 12 [.agg #[i64 p0.1,i64 p0.2.1,i64 p0.2.2.1]] (F.aj.oU p0):=Tryz.cd az.z Tryz.func12
def F.aj.gB.T:az:=⟨fun _=>[],fun _=>none,(fun|2=> .held (some 14) (gF [0,1,2,6,7,9,10,11,12] (.two (gF [3] (.two (gF [4] (.two (gF [5,8,13] (.go 14 true (gF [15] .nil))) (gF [8,5,13] (.go 14 true (gF [15] .nil))))) (.two (gF [5] (.two (gF [4,8,13] (.go 14 true (gF [15] .nil))) (gF [8,4,13] (.go 14 true (gF [15] .nil))))) (gF [8] (.two (gF [4,5,13] (.go 14 true (gF [15] .nil))) (gF [5,4,13] (.go 14 true (gF [15] .nil)))))))) (.two (gF [4] (.two (gF [3] (.two (gF [5,8,13] (.go 14 true (gF [15] .nil))) (gF [8,5,13] (.go 14 true (gF [15] .nil))))) (.two (gF [5] (.two (gF [3,8,13] (.go 14 true (gF [15] .nil))) (gF [8,3,13] (.go 14 true (gF [15] .nil))))) (gF [8] (.two (gF [3,5,13] (.go 14 true (gF [15] .nil))) (gF [5,3,13] (.go 14 true (gF [15] .nil)))))))) (.two (gF [5] (.two (gF [3] (.two (gF [4,8,13] (.go 14 true (gF [15] .nil))) (gF [8,4,13] (.go 14 true (gF [15] .nil))))) (.two (gF [4] (.two (gF [3,8,13] (.go 14 true (gF [15] .nil))) (gF [8,3,13] (.go 14 true (gF [15] .nil))))) (gF [8] (.two (gF [3,4,13] (.go 14 true (gF [15] .nil))) (gF [4,3,13] (.go 14 true (gF [15] .nil)))))))) (gF [8] (.two (gF [3] (.two (gF [4,5,13] (.go 14 true (gF [15] .nil))) (gF [5,4,13] (.go 14 true (gF [15] .nil))))) (.two (gF [4] (.two (gF [3,5,13] (.go 14 true (gF [15] .nil))) (gF [5,3,13] (.go 14 true (gF [15] .nil))))) (gF [5] (.two (gF [3,4,13] (.go 14 true (gF [15] .nil))) (gF [4,3,13] (.go 14 true (gF [15] .nil))))))))))))|_=> .quiet)⟩
def F.aj.gB(p0:LTs [kI,kI,kI]):Tree:=nw 23 [i64 p0.1,i64 p0.2.1,i64 p0.2.2.1] fun b1=>dI (fa (aB b1) 0) fun x2=>cP 39 [i64 x2] fun r3=>cD<|Gl.held fun S4=>eI S4 (fa (aB b1) 1) fun x5=>eI S4 (fa (aB b1) 2) fun x6=>both (nw 86 [pV r3,.slice none 0 0,i64 0] fun b7=>aZ S4<|both (cP 40 [] fun r8=>aZ S4<|both (cM Zp (Instr.makeSlice 43 (i64 16) (i64 16)) (.one (.l .slice)) fun(r9:av)=>aZ S4<|nw 91 [pV r3,.slice none 0 0,.slice none 0 0] fun b10=>aZ S4<|nw 93 [pV r3,pV (some (aB b7)),pV r8,sV r9,pV (some (aB b10)),i64 0,i64 x5,i64 x6,i64 0] fun b11=>ret (pV (some (aB b11)))) (nw 91 [pV r3,.slice none 0 0,.slice none 0 0] fun b12=>aZ S4<|cM Zp (Instr.makeSlice 43 (i64 16) (i64 16)) (.one (.l .slice)) fun(r13:av)=>aZ S4<|nw 93 [pV r3,pV (some (aB b7)),pV r8,sV r13,pV (some (aB b12)),i64 0,i64 x5,i64 x6,i64 0] fun b14=>ret (pV (some (aB b14))))) (both (cM Zp (Instr.makeSlice 43 (i64 16) (i64 16)) (.one (.l .slice)) fun(r15:av)=>aZ S4<|both (cP 40 [] fun r16=>aZ S4<|nw 91 [pV r3,.slice none 0 0,.slice none 0 0] fun b17=>aZ S4<|nw 93 [pV r3,pV (some (aB b7)),pV r16,sV r15,pV (some (aB b17)),i64 0,i64 x5,i64 x6,i64 0] fun b18=>ret (pV (some (aB b18)))) (nw 91 [pV r3,.slice none 0 0,.slice none 0 0] fun b19=>aZ S4<|cP 40 [] fun r20=>aZ S4<|nw 93 [pV r3,pV (some (aB b7)),pV r20,sV r15,pV (some (aB b19)),i64 0,i64 x5,i64 x6,i64 0] fun b21=>ret (pV (some (aB b21))))) (nw 91 [pV r3,.slice none 0 0,.slice none 0 0] fun b22=>aZ S4<|both (cP 40 [] fun r23=>aZ S4<|cM Zp (Instr.makeSlice 43 (i64 16) (i64 16)) (.one (.l .slice)) fun(r24:av)=>aZ S4<|nw 93 [pV r3,pV (some (aB b7)),pV r23,sV r24,pV (some (aB b22)),i64 0,i64 x5,i64 x6,i64 0] fun b25=>ret (pV (some (aB b25)))) (cM Zp (Instr.makeSlice 43 (i64 16) (i64 16)) (.one (.l .slice)) fun(r26:av)=>aZ S4<|cP 40 [] fun r27=>aZ S4<|nw 93 [pV r3,pV (some (aB b7)),pV r27,sV r26,pV (some (aB b22)),i64 0,i64 x5,i64 x6,i64 0] fun b28=>ret (pV (some (aB b28))))))) (both (cP 40 [] fun r29=>aZ S4<|both (nw 86 [pV r3,.slice none 0 0,i64 0] fun b30=>aZ S4<|both (cM Zp (Instr.makeSlice 43 (i64 16) (i64 16)) (.one (.l .slice)) fun(r31:av)=>aZ S4<|nw 91 [pV r3,.slice none 0 0,.slice none 0 0] fun b32=>aZ S4<|nw 93 [pV r3,pV (some (aB b30)),pV r29,sV r31,pV (some (aB b32)),i64 0,i64 x5,i64 x6,i64 0] fun b33=>ret (pV (some (aB b33)))) (nw 91 [pV r3,.slice none 0 0,.slice none 0 0] fun b34=>aZ S4<|cM Zp (Instr.makeSlice 43 (i64 16) (i64 16)) (.one (.l .slice)) fun(r35:av)=>aZ S4<|nw 93 [pV r3,pV (some (aB b30)),pV r29,sV r35,pV (some (aB b34)),i64 0,i64 x5,i64 x6,i64 0] fun b36=>ret (pV (some (aB b36))))) (both (cM Zp (Instr.makeSlice 43 (i64 16) (i64 16)) (.one (.l .slice)) fun(r37:av)=>aZ S4<|both (nw 86 [pV r3,.slice none 0 0,i64 0] fun b38=>aZ S4<|nw 91 [pV r3,.slice none 0 0,.slice none 0 0] fun b39=>aZ S4<|nw 93 [pV r3,pV (some (aB b38)),pV r29,sV r37,pV (some (aB b39)),i64 0,i64 x5,i64 x6,i64 0] fun b40=>ret (pV (some (aB b40)))) (nw 91 [pV r3,.slice none 0 0,.slice none 0 0] fun b41=>aZ S4<|nw 86 [pV r3,.slice none 0 0,i64 0] fun b42=>aZ S4<|nw 93 [pV r3,pV (some (aB b42)),pV r29,sV r37,pV (some (aB b41)),i64 0,i64 x5,i64 x6,i64 0] fun b43=>ret (pV (some (aB b43))))) (nw 91 [pV r3,.slice none 0 0,.slice none 0 0] fun b44=>aZ S4<|both (nw 86 [pV r3,.slice none 0 0,i64 0] fun b45=>aZ S4<|cM Zp (Instr.makeSlice 43 (i64 16) (i64 16)) (.one (.l .slice)) fun(r46:av)=>aZ S4<|nw 93 [pV r3,pV (some (aB b45)),pV r29,sV r46,pV (some (aB b44)),i64 0,i64 x5,i64 x6,i64 0] fun b47=>ret (pV (some (aB b47)))) (cM Zp (Instr.makeSlice 43 (i64 16) (i64 16)) (.one (.l .slice)) fun(r48:av)=>aZ S4<|nw 86 [pV r3,.slice none 0 0,i64 0] fun b49=>aZ S4<|nw 93 [pV r3,pV (some (aB b49)),pV r29,sV r48,pV (some (aB b44)),i64 0,i64 x5,i64 x6,i64 0] fun b50=>ret (pV (some (aB b50))))))) (both (cM Zp (Instr.makeSlice 43 (i64 16) (i64 16)) (.one (.l .slice)) fun(r51:av)=>aZ S4<|both (nw 86 [pV r3,.slice none 0 0,i64 0] fun b52=>aZ S4<|both (cP 40 [] fun r53=>aZ S4<|nw 91 [pV r3,.slice none 0 0,.slice none 0 0] fun b54=>aZ S4<|nw 93 [pV r3,pV (some (aB b52)),pV r53,sV r51,pV (some (aB b54)),i64 0,i64 x5,i64 x6,i64 0] fun b55=>ret (pV (some (aB b55)))) (nw 91 [pV r3,.slice none 0 0,.slice none 0 0] fun b56=>aZ S4<|cP 40 [] fun r57=>aZ S4<|nw 93 [pV r3,pV (some (aB b52)),pV r57,sV r51,pV (some (aB b56)),i64 0,i64 x5,i64 x6,i64 0] fun b58=>ret (pV (some (aB b58))))) (both (cP 40 [] fun r59=>aZ S4<|both (nw 86 [pV r3,.slice none 0 0,i64 0] fun b60=>aZ S4<|nw 91 [pV r3,.slice none 0 0,.slice none 0 0] fun b61=>aZ S4<|nw 93 [pV r3,pV (some (aB b60)),pV r59,sV r51,pV (some (aB b61)),i64 0,i64 x5,i64 x6,i64 0] fun b62=>ret (pV (some (aB b62)))) (nw 91 [pV r3,.slice none 0 0,.slice none 0 0] fun b63=>aZ S4<|nw 86 [pV r3,.slice none 0 0,i64 0] fun b64=>aZ S4<|nw 93 [pV r3,pV (some (aB b64)),pV r59,sV r51,pV (some (aB b63)),i64 0,i64 x5,i64 x6,i64 0] fun b65=>ret (pV (some (aB b65))))) (nw 91 [pV r3,.slice none 0 0,.slice none 0 0] fun b66=>aZ S4<|both (nw 86 [pV r3,.slice none 0 0,i64 0] fun b67=>aZ S4<|cP 40 [] fun r68=>aZ S4<|nw 93 [pV r3,pV (some (aB b67)),pV r68,sV r51,pV (some (aB b66)),i64 0,i64 x5,i64 x6,i64 0] fun b69=>ret (pV (some (aB b69)))) (cP 40 [] fun r70=>aZ S4<|nw 86 [pV r3,.slice none 0 0,i64 0] fun b71=>aZ S4<|nw 93 [pV r3,pV (some (aB b71)),pV r70,sV r51,pV (some (aB b66)),i64 0,i64 x5,i64 x6,i64 0] fun b72=>ret (pV (some (aB b72))))))) (nw 91 [pV r3,.slice none 0 0,.slice none 0 0] fun b73=>aZ S4<|both (nw 86 [pV r3,.slice none 0 0,i64 0] fun b74=>aZ S4<|both (cP 40 [] fun r75=>aZ S4<|cM Zp (Instr.makeSlice 43 (i64 16) (i64 16)) (.one (.l .slice)) fun(r76:av)=>aZ S4<|nw 93 [pV r3,pV (some (aB b74)),pV r75,sV r76,pV (some (aB b73)),i64 0,i64 x5,i64 x6,i64 0] fun b77=>ret (pV (some (aB b77)))) (cM Zp (Instr.makeSlice 43 (i64 16) (i64 16)) (.one (.l .slice)) fun(r78:av)=>aZ S4<|cP 40 [] fun r79=>aZ S4<|nw 93 [pV r3,pV (some (aB b74)),pV r79,sV r78,pV (some (aB b73)),i64 0,i64 x5,i64 x6,i64 0] fun b80=>ret (pV (some (aB b80))))) (both (cP 40 [] fun r81=>aZ S4<|both (nw 86 [pV r3,.slice none 0 0,i64 0] fun b82=>aZ S4<|cM Zp (Instr.makeSlice 43 (i64 16) (i64 16)) (.one (.l .slice)) fun(r83:av)=>aZ S4<|nw 93 [pV r3,pV (some (aB b82)),pV r81,sV r83,pV (some (aB b73)),i64 0,i64 x5,i64 x6,i64 0] fun b84=>ret (pV (some (aB b84)))) (cM Zp (Instr.makeSlice 43 (i64 16) (i64 16)) (.one (.l .slice)) fun(r85:av)=>aZ S4<|nw 86 [pV r3,.slice none 0 0,i64 0] fun b86=>aZ S4<|nw 93 [pV r3,pV (some (aB b86)),pV r81,sV r85,pV (some (aB b73)),i64 0,i64 x5,i64 x6,i64 0] fun b87=>ret (pV (some (aB b87))))) (cM Zp (Instr.makeSlice 43 (i64 16) (i64 16)) (.one (.l .slice)) fun(r88:av)=>aZ S4<|both (nw 86 [pV r3,.slice none 0 0,i64 0] fun b89=>aZ S4<|cP 40 [] fun r90=>aZ S4<|nw 93 [pV r3,pV (some (aB b89)),pV r90,sV r88,pV (some (aB b73)),i64 0,i64 x5,i64 x6,i64 0] fun b91=>ret (pV (some (aB b91)))) (cP 40 [] fun r92=>aZ S4<|nw 86 [pV r3,.slice none 0 0,i64 0] fun b93=>aZ S4<|nw 93 [pV r3,pV (some (aB b93)),pV r92,sV r88,pV (some (aB b73)),i64 0,i64 x5,i64 x6,i64 0] fun b94=>ret (pV (some (aB b94)))))))))
theorem F.aj.gB.calls(p0:LTs [kI,kI,kI]):Cf 16 [.agg #[i64 p0.1,i64 p0.2.1,i64 p0.2.2.1]] (F.aj.gB p0):=Tryz.cd F.aj.gB.T Tryz.func16
def F.aj.oO.T:az:=⟨(fun|4=>[(5,kI)]|_=>[]),fun _=>none,(fun|6=> .tail 10 |_=> .quiet)⟩
def F.aj.oO(p0 p1:LTs [.slice,.slice,.slice,.slice,.slice,.slice,kI,kI,kI,kI]):Tree:=nw 46 [sV p0.1,sV p0.2.1,sV p0.2.2.1,sV p0.2.2.2.1,sV p0.2.2.2.2.1,sV p0.2.2.2.2.2.1,i64 p0.2.2.2.2.2.2.1,i64 p0.2.2.2.2.2.2.2.1,i64 p0.2.2.2.2.2.2.2.2.1,i64 p0.2.2.2.2.2.2.2.2.2.1] fun b1=>nw 46 [sV p1.1,sV p1.2.1,sV p1.2.2.1,sV p1.2.2.2.1,sV p1.2.2.2.2.1,sV p1.2.2.2.2.2.1,i64 p1.2.2.2.2.2.2.1,i64 p1.2.2.2.2.2.2.2.1,i64 p1.2.2.2.2.2.2.2.2.1,i64 p1.2.2.2.2.2.2.2.2.2.1] fun b2=>dS (fa (aB b1) 3) fun x3=>dS (fa (aB b2) 3) fun x4=>br (((x3.n:Nat):Int) != (x4.n:Nat)) (ret (.bool false)) (lp [kI] (fun X5 u6=>dS (fa (aB b1) 3) fun x7=>br (decide ((u6.1:Int)<(x7.n:Nat))) (cD<|dS (fa (aB b1) 3) fun x8=>ix x8.a x8.n u6.1 1 fun a9=>dS a9 fun x10=>dS (fa (aB b2) 3) fun x11=>ix x11.a x11.n u6.1 1 fun a12=>dS a12 fun x13=>cB 31 [sV x10,sV x13] fun r14=>br (!r14) (ret (.bool false)) (X5 (IntKind.wrap .i64 (u6.1+1),()))) (dS (fa (aB b1) 0) fun x8=>dS (fa (aB b2) 0) fun x9=>cB 65 [sV x8,sV x9] fun r10=>br r10 (dS (fa (aB b1) 1) fun x11=>dS (fa (aB b2) 1) fun x12=>cB 66 [sV x11,sV x12] fun r13=>br r13 (dS (fa (aB b1) 2) fun x14=>dS (fa (aB b2) 2) fun x15=>cB 31 [sV x14,sV x15] fun r16=>br r16 (dS (fa (aB b1) 4) fun x17=>dS (fa (aB b2) 4) fun x18=>cB 31 [sV x17,sV x18] fun r19=>br r19 (dS (fa (aB b1) 5) fun x20=>dS (fa (aB b2) 5) fun x21=>cB 31 [sV x20,sV x21] fun r22=>br r22 (dI (fa (aB b1) 6) fun x23=>dI (fa (aB b2) 6) fun x24=>br ((x23:Int)==x24) (dI (fa (aB b1) 7) fun x25=>dI (fa (aB b2) 7) fun x26=>br ((x25:Int)==x26) (dI (fa (aB b1) 8) fun x27=>dI (fa (aB b2) 8) fun x28=>br ((x27:Int)==x28) (dI (fa (aB b1) 9) fun x29=>dI (fa (aB b2) 9) fun x30=>ret (.bool ((x29:Int)==x30))) (ret (.bool false))) (ret (.bool false))) (ret (.bool false))) (ret (.bool false))) (ret (.bool false))) (ret (.bool false))) (ret (.bool false))) (ret (.bool false)))) (0,()))
theorem F.aj.oO.calls(p0 p1:LTs [.slice,.slice,.slice,.slice,.slice,.slice,kI,kI,kI,kI]):Cf 19 [.agg #[sV p0.1,sV p0.2.1,sV p0.2.2.1,sV p0.2.2.2.1,sV p0.2.2.2.2.1,sV p0.2.2.2.2.2.1,i64 p0.2.2.2.2.2.2.1,i64 p0.2.2.2.2.2.2.2.1,i64 p0.2.2.2.2.2.2.2.2.1,i64 p0.2.2.2.2.2.2.2.2.2.1],.agg #[sV p1.1,sV p1.2.1,sV p1.2.2.1,sV p1.2.2.2.1,sV p1.2.2.2.2.1,sV p1.2.2.2.2.2.1,i64 p1.2.2.2.2.2.2.1,i64 p1.2.2.2.2.2.2.2.1,i64 p1.2.2.2.2.2.2.2.2.1,i64 p1.2.2.2.2.2.2.2.2.2.1]] (F.aj.oO p0 p1):=Tryz.cd F.aj.oO.T Tryz.func19
def F.aj.aQ.class.T:az:=⟨(fun|5=>[(8,kI)]|_=>[]),fun _=>none,(fun|9=> .held (some 5) (gF [0,1,2,3,4] (.two (.go 5 true (gF [6,7] .nil)) (gF [6] (.go 5 true (gF [7] .nil)))))|_=> .quiet)⟩
def F.aj.aQ.class(p0:OA)(p1 p2:Int):Tree:=nw 36 (zc Zp 36) fun b1=>br (decide ((p2:Int)<0)) (cG 44 [i64 1,i64 0] [kI,kI] fun r2=>st (aB b1) [i64 r2.1,i64 r2.2.1]<|dG [kI,kI] (aB b1) fun x3=>ret (.agg #[i64 x3.1,i64 x3.2.1])) (br (decide ((p2:Int)≥4294967296)) (cG 44 [i64 1,i64 0] [kI,kI] fun r2=>st (aB b1) [i64 r2.1,i64 r2.2.1]<|dG [kI,kI] (aB b1) fun x3=>ret (.agg #[i64 x3.1,i64 x3.2.1])) (br (decide ((p1:Int)<0)) (cG 44 [i64 1,i64 0] [kI,kI] fun r2=>st (aB b1) [i64 r2.1,i64 r2.2.1]<|dG [kI,kI] (aB b1) fun x3=>ret (.agg #[i64 x3.1,i64 x3.2.1])) (br (decide ((p1:Int)>1023)) (cG 44 [i64 1,i64 0] [kI,kI] fun r2=>st (aB b1) [i64 r2.1,i64 r2.2.1]<|dG [kI,kI] (aB b1) fun x3=>ret (.agg #[i64 x3.1,i64 x3.2.1])) (nw 109 (zc Zp 109) fun b2=>st (aB b2) [i64 p1,.slice none 0 0]<|lp [kI] (fun X3 u4=>br (decide ((u4.1:Int)<32)) (dE ((0:Int)≤u4.1)<|br ((jk .and .i64 (Int.fdiv p2 (2^(min (u4.1:Int).toNat (IntKind.bits .i64)))) 1:Int)==1) (dS (fa (aB b2) 1) fun x5=>nw 3 [i64 u4.1] fun b6=>ap 43 (sV x5) (.slice (some ⟨b6,0,none⟩) 1 1) fun r7=>st (fa (aB b2) 1) [sV r7]<|X3 (IntKind.wrap .i64 (u4.1+1),())) (X3 (IntKind.wrap .i64 (u4.1+1),()))) (cD<|Gl.held fun S5=>nn p0 fun a6=>eP S5 (fa a6 0) fun x7=>eG S5 [kI,.slice] (aB b2) fun x8=>both (cG 121 [pV x7,.agg #[i64 x8.1,sV x8.2.1]] [kI,kI] fun r9=>nw 100 (zc Zp 100) fun b10=>st (aB b10) [i64 r9.1,i64 r9.2.1]<|dI (fa (aB b10) 1) fun x11=>dI (fa (aB b10) 0) fun x12=>cG 44 [i64 x11,i64 x12] [kI,kI] fun r13=>st (aB b1) [i64 r13.1,i64 r13.2.1]<|dG [kI,kI] (aB b1) fun x14=>ret (.agg #[i64 x14.1,i64 x14.2.1])) (nw 100 (zc Zp 100) fun b15=>aZ S5<|cG 121 [pV x7,.agg #[i64 x8.1,sV x8.2.1]] [kI,kI] fun r16=>st (aB b15) [i64 r16.1,i64 r16.2.1]<|dI (fa (aB b15) 1) fun x17=>dI (fa (aB b15) 0) fun x18=>cG 44 [i64 x17,i64 x18] [kI,kI] fun r19=>st (aB b1) [i64 r19.1,i64 r19.2.1]<|dG [kI,kI] (aB b1) fun x20=>ret (.agg #[i64 x20.1,i64 x20.2.1])))) (0,())))))
theorem F.aj.aQ.class.calls(p0:OA)(p1 p2:Int):Cf 43 [pV p0,i64 p1,i64 p2] (F.aj.aQ.class p0 p1 p2):=Tryz.cd F.aj.aQ.class.T Tryz.func43
def F.aj.Ml(p0 p1:Int):Tree:=nw 36 (zc Zp 36) fun b1=>br ((p0:Int) != 0) (st (aB b1) [i64 p0,i64 0]<|dG [kI,kI] (aB b1) fun x2=>ret (.agg #[i64 x2.1,i64 x2.2.1])) (st (aB b1) [i64 p0,i64 p1]<|dG [kI,kI] (aB b1) fun x2=>ret (.agg #[i64 x2.1,i64 x2.2.1]))
theorem F.aj.Ml.calls(p0 p1:Int):Cf 44 [i64 p0,i64 p1] (F.aj.Ml p0 p1):=Tryz.cd az.z Tryz.func44
def F.aj.aQ.made.T:az:=⟨fun _=>[],(fun|7=>some []|_=>none),fun _=> .quiet⟩
def F.aj.aQ.made(p0:OA)(p1:LTs [kI,kI,kI,.bool])(p2 p3:Int):Tree:=nw 72 [i64 p1.1,i64 p1.2.1,i64 p1.2.2.1,.bool p1.2.2.2.1] fun b1=>nw 36 (zc Zp 36) fun b2=>nn p0 fun a3=>dP (fa a3 2) fun x4=>cI 56 [pV x4] fun r5=>br ((r5:Int)==0) (cG 44 [i64 3,i64 0] [kI,kI] fun r6=>st (aB b2) [i64 r6.1,i64 r6.2.1]<|dG [kI,kI] (aB b2) fun x7=>ret (.agg #[i64 x7.1,i64 x7.2.1])) (dG [kI,kI,kI,.bool] (aB b1) fun x6=>cG 122 [pV p0,.agg #[i64 x6.1,i64 x6.2.1,i64 x6.2.2.1,.bool x6.2.2.2.1],i64 p2,i64 p3] [kI,kI] fun r7=>nw 100 (zc Zp 100) fun b8=>st (aB b8) [i64 r7.1,i64 r7.2.1]<|jn (fun(j10:LTs [])=>dI (fa (aB b8) 1) fun x11=>br ((x11:Int)==3) (cN 60 [pV p0,.bool true] [.g [.slice,.slice,.slice,.slice],.l kI] fun r12=>dG [kI,kI,kI,.bool] (aB b1) fun x13=>cG 122 [pV p0,.agg #[i64 x13.1,i64 x13.2.1,i64 x13.2.2.1,.bool x13.2.2.2.1],i64 p2,i64 p3] [kI,kI] fun r14=>st (aB b8) [i64 r14.1,i64 r14.2.1]<|dI (fa (aB b8) 1) fun x15=>br ((x15:Int) != 0) (dI (fa (aB b8) 1) fun x16=>cG 44 [i64 x16,i64 0] [kI,kI] fun r17=>st (aB b2) [i64 r17.1,i64 r17.2.1]<|dG [kI,kI] (aB b2) fun x18=>ret (.agg #[i64 x18.1,i64 x18.2.1])) (dI (fa (aB b8) 0) fun x16=>cG 48 [pV p0,i64 x16] [kI,kI] fun r17=>st (aB b2) [i64 r17.1,i64 r17.2.1]<|dG [kI,kI] (aB b2) fun x18=>ret (.agg #[i64 x18.1,i64 x18.2.1]))) (dI (fa (aB b8) 1) fun x12=>br ((x12:Int) != 0) (dI (fa (aB b8) 1) fun x13=>cG 44 [i64 x13,i64 0] [kI,kI] fun r14=>st (aB b2) [i64 r14.1,i64 r14.2.1]<|dG [kI,kI] (aB b2) fun x15=>ret (.agg #[i64 x15.1,i64 x15.2.1])) (dI (fa (aB b8) 0) fun x13=>cG 48 [pV p0,i64 x13] [kI,kI] fun r14=>st (aB b2) [i64 r14.1,i64 r14.2.1]<|dG [kI,kI] (aB b2) fun x15=>ret (.agg #[i64 x15.1,i64 x15.2.1])))) fun J9=>dI (fa (aB b8) 1) fun x16=>br ((x16:Int)==3) (cN 60 [pV p0,.bool false] [.g [.slice,.slice,.slice,.slice],.l kI] fun r17=>dG [kI,kI,kI,.bool] (aB b1) fun x18=>cG 122 [pV p0,.agg #[i64 x18.1,i64 x18.2.1,i64 x18.2.2.1,.bool x18.2.2.2.1],i64 p2,i64 p3] [kI,kI] fun r19=>st (aB b8) [i64 r19.1,i64 r19.2.1]<|J9 (())) (J9 (())))
theorem F.aj.aQ.made.calls(p0:OA)(p1:LTs [kI,kI,kI,.bool])(p2 p3:Int):Cf 45 [pV p0,.agg #[i64 p1.1,i64 p1.2.1,i64 p1.2.2.1,.bool p1.2.2.2.1],i64 p2,i64 p3] (F.aj.aQ.made p0 p1 p2 p3):=Tryz.cd F.aj.aQ.made.T Tryz.func45
def F.aj.aQ.field(p0:OA)(p1 p2:Int):Tree:=nn p0 fun a1=>dP (fa a1 0) fun x2=>cG 123 [pV x2,i64 p1] [kI,kI,kI,.bool,.bool] fun r3=>nw 172 (zc Zp 172) fun b4=>st (aB b4) [i64 r3.1,i64 r3.2.1,i64 r3.2.2.1,.bool r3.2.2.2.1,.bool r3.2.2.2.2.1]<|dI (fa (fa (aB b4) 0) 0) fun x5=>br ((x5:Int)==4) (ret (.tuple #[i64 5,.bool false])) (br (decide ((p2:Int)<0)) (ret (.tuple #[i64 1,.bool false])) (dI (fa (fa (aB b4) 0) 2) fun x6=>br (decide ((p2:Int)≥x6)) (ret (.tuple #[i64 1,.bool false])) (nn p0 fun a7=>dP (fa a7 0) fun x8=>cS 124 [pV x8,i64 p1] fun r9=>cB 33 [sV r9,i64 p2] fun r10=>ret (.tuple #[i64 0,.bool r10]))))
theorem F.aj.aQ.field.calls(p0:OA)(p1 p2:Int):Cf 46 [pV p0,i64 p1,i64 p2] (F.aj.aQ.field p0 p1 p2):=Tryz.cd az.z Tryz.func46
def F.aj.aQ.Gt(p0:OA)(p1:Int):Tree:=nw 36 (zc Zp 36) fun b1=>br ((p1:Int)==0) (st (aB b1) [i64 0,i64 0]<|dG [kI,kI] (aB b1) fun x2=>ret (.agg #[i64 x2.1,i64 x2.2.1])) (nn p0 fun a2=>dP (fa a2 2) fun x3=>cG 125 [pV x3,i64 p1] [kI,kI] fun r4=>nw 100 (zc Zp 100) fun b5=>st (aB b5) [i64 r4.1,i64 r4.2.1]<|dI (fa (aB b5) 1) fun x6=>dI (fa (aB b5) 0) fun x7=>cG 44 [i64 x6,i64 x7] [kI,kI] fun r8=>st (aB b1) [i64 r8.1,i64 r8.2.1]<|dG [kI,kI] (aB b1) fun x9=>ret (.agg #[i64 x9.1,i64 x9.2.1]))
theorem F.aj.aQ.Gt.calls(p0:OA)(p1:Int):Cf 48 [pV p0,i64 p1] (F.aj.aQ.Gt p0 p1):=Tryz.cd az.z Tryz.func48
def F.aj.aQ.aC.T:az:=⟨fun _=>[],(fun|4=>some [(5,.adr)]|_=>none),(fun|3=> .held (some 6) (gF [0,1,2,3,4,5] (.two (.go 6 true (gF [7,8,9] .nil)) (gF [8] (.go 6 true (gF [7,9] .nil)))))|6=> .tail 10 |8=> .held (some 11) (gF [0,1,2,3,4,5,6,7,8,9,10] (.go 11 true (gF [12,13,14] .nil)))|_=> .quiet)⟩
def F.aj.aQ.aC(p0:OA)(p1:LTs [kI,kI]):Tree:=nw 100 [i64 p1.1,i64 p1.2.1] fun b1=>nw 36 (zc Zp 36) fun b2=>dI (fa (aB b1) 1) fun x3=>br ((x3:Int) != 0) (dI (fa (aB b1) 1) fun x4=>cG 44 [i64 x4,i64 0] [kI,kI] fun r5=>st (aB b2) [i64 r5.1,i64 r5.2.1]<|dG [kI,kI] (aB b2) fun x6=>ret (.agg #[i64 x6.1,i64 x6.2.1])) (jn (fun(j5:LTs [.adr])=>dI (fa j5.1 0) fun x6=>br ((x6:Int) != 4) (cG 44 [i64 5,i64 0] [kI,kI] fun r7=>st (aB b2) [i64 r7.1,i64 r7.2.1]<|dG [kI,kI] (aB b2) fun x8=>ret (.agg #[i64 x8.1,i64 x8.2.1])) (cD<|dI (fa j5.1 1) fun x7=>br ((x7:Int) != 3) (nn p0 fun a8=>dP (fa a8 0) fun x9=>dI (fa (aB b1) 0) fun x10=>cG 47 [pV x9,i64 x10,i64 0] [kI,kI] fun r11=>br ((r11.1:Int) != 0) (nn p0 fun a12=>dP (fa a12 2) fun x13=>cI 56 [pV x13] fun r14=>br ((r14:Int)==0) (cG 44 [i64 3,i64 0] [kI,kI] fun r15=>st (aB b2) [i64 r15.1,i64 r15.2.1]<|dG [kI,kI] (aB b2) fun x16=>ret (.agg #[i64 x16.1,i64 x16.2.1])) (cD<|Gl.held fun S15=>nn p0 fun a16=>eP S15 (fa a16 1) fun x17=>eI S15 (fa (aB b1) 0) fun x18=>nn p0 fun a19=>eI S15 (fa a19 5) fun x20=>cG 127 [pV x17,i64 x18,i64 x20] [kI,kI] fun r21=>cG 48 [pV p0,i64 r21.1] [kI,kI] fun r22=>st (aB b2) [i64 r22.1,i64 r22.2.1]<|dG [kI,kI] (aB b2) fun x23=>ret (.agg #[i64 x23.1,i64 x23.2.1]))) (cD<|Gl.held fun S12=>nn p0 fun a13=>eP S12 (fa a13 1) fun x14=>eI S12 (fa (aB b1) 0) fun x15=>nn p0 fun a16=>eI S12 (fa a16 5) fun x17=>cG 127 [pV x14,i64 x15,i64 x17] [kI,kI] fun r18=>cG 48 [pV p0,i64 r18.1] [kI,kI] fun r19=>st (aB b2) [i64 r19.1,i64 r19.2.1]<|dG [kI,kI] (aB b2) fun x20=>ret (.agg #[i64 x20.1,i64 x20.2.1]))) (cD<|Gl.held fun S8=>nn p0 fun a9=>eP S8 (fa a9 1) fun x10=>eI S8 (fa (aB b1) 0) fun x11=>nn p0 fun a12=>eI S8 (fa a12 5) fun x13=>cG 127 [pV x10,i64 x11,i64 x13] [kI,kI] fun r14=>cG 48 [pV p0,i64 r14.1] [kI,kI] fun r15=>st (aB b2) [i64 r15.1,i64 r15.2.1]<|dG [kI,kI] (aB b2) fun x16=>ret (.agg #[i64 x16.1,i64 x16.2.1])))) fun J4=>cD<|Gl.held fun S17=>nn p0 fun a18=>eP S17 (fa a18 0) fun x19=>eI S17 (fa (aB b1) 0) fun x20=>both (cG 123 [pV x19,i64 x20] [kI,kI,kI,.bool,.bool] fun r21=>nw 72 (zc Zp 72) fun b22=>st (aB b22) [i64 r21.1,i64 r21.2.1,i64 r21.2.2.1,.bool r21.2.2.2.1]<|J4 (⟨b22,0,none⟩,())) (nw 72 (zc Zp 72) fun b23=>aZ S17<|cG 123 [pV x19,i64 x20] [kI,kI,kI,.bool,.bool] fun r24=>st (aB b23) [i64 r24.1,i64 r24.2.1,i64 r24.2.2.1,.bool r24.2.2.2.1]<|J4 (⟨b23,0,none⟩,())))
theorem F.aj.aQ.aC.calls(p0:OA)(p1:LTs [kI,kI]):Cf 52 [pV p0,.agg #[i64 p1.1,i64 p1.2.1]] (F.aj.aQ.aC p0 p1):=Tryz.cd F.aj.aQ.aC.T Tryz.func52
def F.aj.aQ.run.T:az:=⟨fun _=>[],(fun|3=>some []|5=>some []|_=>none),(fun|1=> .quiet|5=> .held (some 6) (gF [0,1,2,3,4,5] (.two (.go 6 true (gF [7,8] .nil)) (gF [7] (.go 6 true (gF [8] .nil)))))|8=> .tail 9 |_=> .quiet)⟩
def F.aj.aQ.run(p0:OA)(p1:LTs [kI,kI,kI,kI]):Tree:=nw 39 [i64 p1.1,i64 p1.2.1,i64 p1.2.2.1,i64 p1.2.2.2.1] fun b1=>nw 36 (zc Zp 36) fun b2=>jn (fun(j4:LTs [])=>jn (fun(j6:LTs [])=>cD<|Gl.held fun S7=>nn p0 fun a8=>eP S7 (fa a8 4) fun x9=>eI S7 (fa (aB b1) 1) fun x10=>both (cG 80 [pV x9,i64 x10] [kI,kI] fun r11=>nw 100 (zc Zp 100) fun b12=>st (aB b12) [i64 r11.1,i64 r11.2.1]<|dI (fa (aB b1) 2) fun x13=>br ((x13:Int)==1) (cD<|nn p0 fun a14=>dS (fa a14 3) fun x15=>dI (fa (aB b1) 3) fun x16=>dI (fa (aB b12) 0) fun x17=>ix x15.a x15.n x16 1 fun a18=>st a18 [i64 x17]<|st (aB b2) [i64 0,i64 0]<|dG [kI,kI] (aB b2) fun x19=>ret (.agg #[i64 x19.1,i64 x19.2.1])) (br ((x13:Int)==2) (dI (fa (aB b12) 0) fun x14=>cG 48 [pV p0,i64 x14] [kI,kI] fun r15=>st (aB b2) [i64 r15.1,i64 r15.2.1]<|dG [kI,kI] (aB b2) fun x16=>ret (.agg #[i64 x16.1,i64 x16.2.1])) (st (aB b2) [i64 0,i64 0]<|dG [kI,kI] (aB b2) fun x14=>ret (.agg #[i64 x14.1,i64 x14.2.1])))) (nw 100 (zc Zp 100) fun b15=>aZ S7<|cG 80 [pV x9,i64 x10] [kI,kI] fun r16=>st (aB b15) [i64 r16.1,i64 r16.2.1]<|dI (fa (aB b1) 2) fun x17=>br ((x17:Int)==1) (cD<|nn p0 fun a18=>dS (fa a18 3) fun x19=>dI (fa (aB b1) 3) fun x20=>dI (fa (aB b15) 0) fun x21=>ix x19.a x19.n x20 1 fun a22=>st a22 [i64 x21]<|st (aB b2) [i64 0,i64 0]<|dG [kI,kI] (aB b2) fun x23=>ret (.agg #[i64 x23.1,i64 x23.2.1])) (br ((x17:Int)==2) (dI (fa (aB b15) 0) fun x18=>cG 48 [pV p0,i64 x18] [kI,kI] fun r19=>st (aB b2) [i64 r19.1,i64 r19.2.1]<|dG [kI,kI] (aB b2) fun x20=>ret (.agg #[i64 x20.1,i64 x20.2.1])) (st (aB b2) [i64 0,i64 0]<|dG [kI,kI] (aB b2) fun x18=>ret (.agg #[i64 x18.1,i64 x18.2.1]))))) fun J5=>dI (fa (aB b1) 2) fun x19=>br ((x19:Int)==2) (nn p0 fun a20=>dP (fa a20 2) fun x21=>cI 56 [pV x21] fun r22=>br ((r22:Int)==0) (cG 44 [i64 3,i64 0] [kI,kI] fun r23=>st (aB b2) [i64 r23.1,i64 r23.2.1]<|dG [kI,kI] (aB b2) fun x24=>ret (.agg #[i64 x24.1,i64 x24.2.1])) (J5 (()))) (J5 (()))) fun J3=>cD<|dI (fa (aB b1) 1) fun x20=>br (decide ((x20:Int)<0)) (cG 44 [i64 1,i64 0] [kI,kI] fun r21=>st (aB b2) [i64 r21.1,i64 r21.2.1]<|dG [kI,kI] (aB b2) fun x22=>ret (.agg #[i64 x22.1,i64 x22.2.1])) (dI (fa (aB b1) 1) fun x21=>nn p0 fun a22=>dP (fa a22 4) fun x23=>nn x23 fun a24=>dS (fa a24 2) fun x25=>br (decide ((x21:Int)≥(x25.n:Nat))) (cG 44 [i64 1,i64 0] [kI,kI] fun r26=>st (aB b2) [i64 r26.1,i64 r26.2.1]<|dG [kI,kI] (aB b2) fun x27=>ret (.agg #[i64 x27.1,i64 x27.2.1])) (dI (fa (aB b1) 2) fun x26=>br (decide ((x26:Int)<0)) (cG 44 [i64 1,i64 0] [kI,kI] fun r27=>st (aB b2) [i64 r27.1,i64 r27.2.1]<|dG [kI,kI] (aB b2) fun x28=>ret (.agg #[i64 x28.1,i64 x28.2.1])) (dI (fa (aB b1) 2) fun x27=>br (decide ((x27:Int)>2)) (cG 44 [i64 1,i64 0] [kI,kI] fun r28=>st (aB b2) [i64 r28.1,i64 r28.2.1]<|dG [kI,kI] (aB b2) fun x29=>ret (.agg #[i64 x29.1,i64 x29.2.1])) (dI (fa (aB b1) 2) fun x28=>br ((x28:Int)==1) (dI (fa (aB b1) 3) fun x29=>br (decide ((x29:Int)<0)) (cG 44 [i64 1,i64 0] [kI,kI] fun r30=>st (aB b2) [i64 r30.1,i64 r30.2.1]<|dG [kI,kI] (aB b2) fun x31=>ret (.agg #[i64 x31.1,i64 x31.2.1])) (dI (fa (aB b1) 3) fun x30=>br (decide ((x30:Int)≥16)) (cG 44 [i64 1,i64 0] [kI,kI] fun r31=>st (aB b2) [i64 r31.1,i64 r31.2.1]<|dG [kI,kI] (aB b2) fun x32=>ret (.agg #[i64 x32.1,i64 x32.2.1])) (J3 (())))) (J3 (()))))))
theorem F.aj.aQ.run.calls(p0:OA)(p1:LTs [kI,kI,kI,kI]):Cf 59 [pV p0,.agg #[i64 p1.1,i64 p1.2.1,i64 p1.2.2.1,i64 p1.2.2.2.1]] (F.aj.aQ.run p0 p1):=Tryz.cd F.aj.aQ.run.T Tryz.func59
def F.aj.aQ.Collect.T:az:=⟨(fun|4=>[(7,kI)]|_=>[]),(fun|2=>some [(6,.adr)]|_=>none),(fun|1=> .held (some 7) (gF [0,1,2,3,4,5] (.two (gF [6] (.two (.go 7 true (gF [8,9] .nil)) (gF [8] (.go 7 true (gF [9] .nil))))) (gF [8,6] (.go 7 true (gF [9] .nil)))))|2=> .tail 6 |6=> .tail 9 |7=> .tail 6 |8=> .tail 6 |_=> .quiet)⟩
def F.aj.aQ.Collect(p0:OA)(p1:Bool):Tree:=nw 120 (zc Zp 120) fun b1=>jn (fun(j3:LTs [.adr])=>cD<|nn p0 fun a4=>dP (fa a4 1) fun x5=>dS (fa j3.1 0) fun x6=>cI 53 [pV x5,sV x6] fun r7=>lp [kI] (fun X8 u9=>dS (fa j3.1 1) fun x10=>br (decide ((u9.1:Int)<(x10.n:Nat))) (cD<|nn p0 fun a11=>dP (fa a11 1) fun x12=>dS (fa j3.1 1) fun x13=>ix x13.a x13.n u9.1 1 fun a14=>dI a14 fun x15=>cG 54 [pV x12,i64 x15] [kI,kI] fun r16=>X8 (IntKind.wrap .i64 (u9.1+1),())) (cD<|nn p0 fun a11=>dP (fa a11 4) fun x12=>dS (fa j3.1 2) fun x13=>cN 133 [pV x12,sV x13] [] fun r14=>cD<|nn p0 fun a15=>dP (fa a15 0) fun x16=>dS (fa j3.1 3) fun x17=>cI 134 [pV x16,sV x17] fun r18=>nn p0 fun a19=>dI (fa a19 8) fun x20=>nn p0 fun a21=>st (fa a21 8) [i64 (IntKind.wrap .i64 (x20+1))]<|dG [.slice,.slice,.slice,.slice] j3.1 fun x22=>st (aB b1) [sV x22.1,sV x22.2.1,sV x22.2.2.1,sV x22.2.2.2.1]<|dG [.slice,.slice,.slice,.slice] (aB b1) fun x23=>ret (.tuple #[.agg #[sV x23.1,sV x23.2.1,sV x23.2.2.1,sV x23.2.2.2.1],i64 r18]))) (0,())) fun J2=>cD<|Gl.held fun S24=>nn p0 fun a25=>eP S24 (fa a25 0) fun x26=>both (cG 132 [pV p0,.bool p1] [.slice,.slice,kI,kI,kI,.bool,kI] fun r27=>aZ S24<|both (cG 131 [pV x26,.agg #[sV r27.1,sV r27.2.1,i64 r27.2.2.1,i64 r27.2.2.2.1,i64 r27.2.2.2.2.1,.bool r27.2.2.2.2.2.1,i64 r27.2.2.2.2.2.2.1]] [.slice,.slice,.slice,.slice] fun r28=>nw 120 (zc Zp 120) fun b29=>st (aB b29) [sV r28.1,sV r28.2.1,sV r28.2.2.1,sV r28.2.2.2.1]<|J2 (⟨b29,0,none⟩,())) (nw 120 (zc Zp 120) fun b30=>aZ S24<|cG 131 [pV x26,.agg #[sV r27.1,sV r27.2.1,i64 r27.2.2.1,i64 r27.2.2.2.1,i64 r27.2.2.2.2.1,.bool r27.2.2.2.2.2.1,i64 r27.2.2.2.2.2.2.1]] [.slice,.slice,.slice,.slice] fun r31=>st (aB b30) [sV r31.1,sV r31.2.1,sV r31.2.2.1,sV r31.2.2.2.1]<|J2 (⟨b30,0,none⟩,()))) (nw 120 (zc Zp 120) fun b32=>aZ S24<|cG 132 [pV p0,.bool p1] [.slice,.slice,kI,kI,kI,.bool,kI] fun r33=>aZ S24<|cG 131 [pV x26,.agg #[sV r33.1,sV r33.2.1,i64 r33.2.2.1,i64 r33.2.2.2.1,i64 r33.2.2.2.2.1,.bool r33.2.2.2.2.2.1,i64 r33.2.2.2.2.2.2.1]] [.slice,.slice,.slice,.slice] fun r34=>st (aB b32) [sV r34.1,sV r34.2.1,sV r34.2.2.1,sV r34.2.2.2.1]<|J2 (⟨b32,0,none⟩,()))
theorem F.aj.aQ.Collect.calls(p0:OA)(p1:Bool):Cf 60 [pV p0,.bool p1] (F.aj.aQ.Collect p0 p1):=Tryz.cd F.aj.aQ.Collect.T Tryz.func60
def F.aj.aQ.once.T:az:=⟨fun _=>[],fun _=>none,(fun|2=> .tail 12 |3=> .tail 5 |_=> .quiet)⟩
def F.aj.aQ.once(p0:OA)(p1:LTs [kI,kI,kI,.bool])(p2 p3:Int):Tree:=nw 72 [i64 p1.1,i64 p1.2.1,i64 p1.2.2.1,.bool p1.2.2.2.1] fun b1=>nw 100 (zc Zp 100) fun b2=>dI (fa (aB b1) 0) fun x3=>br ((x3:Int)==4) (cD<|nn p0 fun a4=>dP (fa a4 1) fun x5=>dI (fa (aB b1) 1) fun x6=>nn p0 fun a7=>dI (fa a7 5) fun x8=>cG 181 [pV x5,i64 x6,i64 p2,i64 p3,i64 x8] [kI,kI] fun r9=>st (aB b2) [i64 r9.1,i64 r9.2.1]<|dG [kI,kI] (aB b2) fun x10=>ret (.agg #[i64 x10.1,i64 x10.2.1])) (cD<|nn p0 fun a4=>dP (fa a4 0) fun x5=>dG [kI,kI,kI,.bool] (aB b1) fun x6=>cG 182 [pV x5,.agg #[i64 x6.1,i64 x6.2.1,i64 x6.2.2.1,.bool x6.2.2.2.1]] [kI,kI] fun r7=>st (aB b2) [i64 r7.1,i64 r7.2.1]<|dG [kI,kI] (aB b2) fun x8=>ret (.agg #[i64 x8.1,i64 x8.2.1]))
theorem F.aj.aQ.once.calls(p0:OA)(p1:LTs [kI,kI,kI,.bool])(p2 p3:Int):Cf 122 [pV p0,.agg #[i64 p1.1,i64 p1.2.1,i64 p1.2.2.1,.bool p1.2.2.2.1],i64 p2,i64 p3] (F.aj.aQ.once p0 p1 p2 p3):=Tryz.cd F.aj.aQ.once.T Tryz.func122
def F.aj.aQ.In.T:az:=⟨(fun|4=>[(5,.slice),(8,kI)]|8=>[(6,.slice),(9,kI)]|_=>[]),fun _=>none,(fun|12=> .held (some 55) (gF [0,1,2,3,4,5,6,7,8,9,10,11,12,16,17,18,19,20,21,22,24,25,26,27,28,29,30,31,32,33,34,36,37,38,39,40,41,42,45,46,47,48,49,50,51,52,53] (.two (gF [13] (.two (gF [14,15,23,35,43,44,54] (.go 55 true .nil)) (gF [15,14,23,35,43,44,54] (.go 55 true .nil)))) (gF [15,13,14,23,35,43,44,54] (.go 55 true .nil))))|_=> .quiet)⟩
def F.aj.aQ.In(p0:OA)(p1:Bool):Tree:=nw 181 (zc Zp 181) fun b1=>nn p0 fun a2=>dP (fa a2 2) fun x3=>cS 76 [pV x3] fun r4=>lp [.slice,kI] (fun X5 u6=>br (decide ((u6.2.1:Int)<(r4.n:Nat))) (ix r4.a r4.n u6.2.1 2 fun a7=>dI (fa a7 1) fun x8=>nw 3 [i64 x8] fun b9=>ap 43 (sV u6.1) (.slice (some ⟨b9,0,none⟩) 1 1) fun r10=>X5 (r10,IntKind.wrap .i64 (u6.2.1+1),())) (lp [.slice,kI] (fun X7 u8=>nn p0 fun a9=>dP (fa a9 1) fun x10=>nn x10 fun a11=>dS (fa a11 1) fun x12=>br (decide ((u8.2.1:Int)<(x12.n:Nat))) (nn p0 fun a13=>dP (fa a13 1) fun x14=>nn x14 fun a15=>dS (fa a15 1) fun x16=>ix x16.a x16.n u8.2.1 1 fun a17=>dS a17 fun x18=>br (decide (((x18.n:Nat):Int)>0)) (nn p0 fun a19=>dP (fa a19 1) fun x20=>nn x20 fun a21=>dS (fa a21 1) fun x22=>ix x22.a x22.n u8.2.1 1 fun a23=>dS a23 fun x24=>ix x24.a x24.n 0 1 fun a25=>dI a25 fun x26=>nw 3 [i64 x26] fun b27=>ap 43 (sV u8.1) (.slice (some ⟨b27,0,none⟩) 1 1) fun r28=>X7 (r28,IntKind.wrap .i64 (u8.2.1+1),())) (X7 (u8.1,IntKind.wrap .i64 (u8.2.1+1),()))) (cD<|Gl.held fun S13=>nn p0 fun a14=>eS S13 (fa a14 3) fun x15=>nn p0 fun a16=>eP S13 (fa a16 4) fun x17=>nn x17 fun a18=>eS S13 (fa a18 2) fun x19=>nn p0 fun a20=>eP S13 (fa a20 4) fun x21=>nn x21 fun a22=>eS S13 (fa a22 1) fun x23=>nn p0 fun a24=>eI S13 (fa a24 5) fun x25=>nn p0 fun a26=>eP S13 (fa a26 0) fun x27=>nn x27 fun a28=>eP S13 (fa a28 0) fun x29=>nn p0 fun a30=>eP S13 (fa a30 0) fun x31=>nn x31 fun a32=>eP S13 (fa a32 0) fun x33=>nn p0 fun a34=>eI S13 (fa a34 6) fun x35=>nn p0 fun a36=>eI S13 (fa a36 7) fun x37=>both (nw 43 [sV u6.1,sV x15,sV u8.1,sV x19] fun b38=>aZ S13<|both (cS 190 [.slice (some ⟨b38,0,none⟩) 4 4] fun r39=>aZ S13<|nw 3 [] fun b40=>aZ S13<|ap 43 (.slice (some ⟨b40,0,none⟩) 0 0) (sV x23) fun r41=>aZ S13<|cI 63 [pV x29] fun r42=>aZ S13<|cI 62 [pV x33] fun r43=>aZ S13<|st (aB b1) [sV r39,sV r41,i64 x25,i64 (IntKind.wrap .i64 (r42-r43)),i64 x35,.bool p1,i64 x37]<|dG [.slice,.slice,kI,kI,kI,.bool,kI] (aB b1) fun x44=>ret (.agg #[sV x44.1,sV x44.2.1,i64 x44.2.2.1,i64 x44.2.2.2.1,i64 x44.2.2.2.2.1,.bool x44.2.2.2.2.2.1,i64 x44.2.2.2.2.2.2.1])) (nw 3 [] fun b45=>aZ S13<|cS 190 [.slice (some ⟨b38,0,none⟩) 4 4] fun r46=>aZ S13<|ap 43 (.slice (some ⟨b45,0,none⟩) 0 0) (sV x23) fun r47=>aZ S13<|cI 63 [pV x29] fun r48=>aZ S13<|cI 62 [pV x33] fun r49=>aZ S13<|st (aB b1) [sV r46,sV r47,i64 x25,i64 (IntKind.wrap .i64 (r48-r49)),i64 x35,.bool p1,i64 x37]<|dG [.slice,.slice,kI,kI,kI,.bool,kI] (aB b1) fun x50=>ret (.agg #[sV x50.1,sV x50.2.1,i64 x50.2.2.1,i64 x50.2.2.2.1,i64 x50.2.2.2.2.1,.bool x50.2.2.2.2.2.1,i64 x50.2.2.2.2.2.2.1]))) (nw 3 [] fun b51=>aZ S13<|nw 43 [sV u6.1,sV x15,sV u8.1,sV x19] fun b52=>aZ S13<|cS 190 [.slice (some ⟨b52,0,none⟩) 4 4] fun r53=>aZ S13<|ap 43 (.slice (some ⟨b51,0,none⟩) 0 0) (sV x23) fun r54=>aZ S13<|cI 63 [pV x29] fun r55=>aZ S13<|cI 62 [pV x33] fun r56=>aZ S13<|st (aB b1) [sV r53,sV r54,i64 x25,i64 (IntKind.wrap .i64 (r55-r56)),i64 x35,.bool p1,i64 x37]<|dG [.slice,.slice,kI,kI,kI,.bool,kI] (aB b1) fun x57=>ret (.agg #[sV x57.1,sV x57.2.1,i64 x57.2.2.1,i64 x57.2.2.2.1,i64 x57.2.2.2.2.1,.bool x57.2.2.2.2.2.1,i64 x57.2.2.2.2.2.2.1])))) (⟨none,0,0⟩,0,()))) (⟨none,0,0⟩,0,())
theorem F.aj.aQ.In.calls(p0:OA)(p1:Bool):Cf 132 [pV p0,.bool p1] (F.aj.aQ.In p0 p1):=Tryz.cd F.aj.aQ.In.T Tryz.func132
variable{ρ0 ρ:FR}{L L':List aD}{Post:Value→List aD→Prop}{T:Tree}
structure Dl where
 p:Nat
 h:Nat
 r:Nat
 n:Nat
 f:Nat
def iJ(d:Dl)(x:Rt):aD:=fun h=>∃s:av,s.n=x.ro.length∧star [au d.p [pA d.h,pA d.r,pA d.n,bY s,pA d.f,i64 x.ck,i64 x.ba,i64 x.stack,i64 x.rn],aw s 1 (x.ro.map i64)] h
theorem iJ.op{d:Dl}{x:Rt}(t:Take L (iJ d x) L')(h:∀s:av,s.n=x.ro.length→Tr ρ0 ρ (au d.p [pA d.h,pA d.r,pA d.n,bY s,pA d.f,i64 x.ck,i64 x.ba,i64 x.stack,i64 x.rn]::aw s 1 (x.ro.map i64)::L') T Post):Tr ρ0 ρ L T Post:=
 Tr.iW (M:=fun s:av=>[au d.p [pA d.h,pA d.r,pA d.n,bY s,pA d.f,i64 x.ck,i64 x.ba,i64 x.stack,i64 x.rn],aw s 1 (x.ro.map i64)]) (c:=fun s=>s.n=x.ro.length) t (fun _ h=>h) h
theorem iJ.cl{d:Dl}{x:Rt}{s:av}(hs:s.n=x.ro.length)(h:HP)(H:star [au d.p [pA d.h,pA d.r,pA d.n,bY s,pA d.f,i64 x.ck,i64 x.ba,i64 x.stack,i64 x.rn],aw s 1 (x.ro.map i64)] h):iJ d x h:=⟨s,hs,H⟩
abbrev Dl.A(d:Dl)(x:Rt)(lc:List (aX×av)):List aD:=[iJ d x,bO d.r d.h x.rows x.bb,bX d.n x.hs,cn d.f d.h x.wa x.pe,ct d.h x.S lc]
theorem Gc(p:Nat)(S:aJ)(hw:Wf S):Gl.Spec ρ Zp 63 [pA p] [ay p S] R1
  fun r M=>r=((S.ws.length-64:Nat):Int)∧M=[ay p S]:=by refine So (F.ah.aV.Cap.calls _) fun R=>af (ay.op tk fun sa sk sm sq ql hql=>?_);refine Tr.fu (s:=sk) tk fun hk=>?_;rw[List.length_map]at hk;have hl:=hw.len;have hm:=hw.fF;have hp:=hw.pos;refine iL ?_;rw[bG (n:=((sk.n:Nat):Int)-1),bG];refine tC (ay.cl hql)<|ax ?_ ⟨rfl,rfl⟩ ar bE;rw[show(((sk.n:Nat):Int)-1)*64=((S.ws.length-64:Nat):Int) by omega];rfl
theorem Kk(pg ba stack:Int)(h:(1≤pg∧pg≤256)∧0≤ba∧(1≤stack∧stack≤4096)):Gl.Spec ρ Zp 16 [.agg #[i64 pg,i64 ba,i64 stack]] [] (.one (.l .ptr))
  fun r M=>∃d:Dl,r=oA d.p∧M=d.A (Rt.new pg ba stack) []:=by
 refine So (F.aj.gB.calls (pg,ba,stack,())) fun R=>aq fun b1=>lI _ 0 pg<|ai (KV _ h.1.1 h.1.2) ar ?_;rintro _ _ ⟨bh,rfl,rfl⟩;simp only[c8,c9];refine aA (aK [au _ [i64 pg,i64 ba,i64 stack]] ar ?_);refine jL<|jL ?_;have m1:∀{ρ0 ρ:FR} {L:List aD} {Post:Value→List aD→Prop} {k:RT (.one (.l .slice))→Tree},(∀s:av,s.n=16→Tr ρ0 ρ (aw s 1 ((List.replicate 16 (0:Int)).map i64)::L) (k s) Post)→
   Tr ρ0 ρ L (cM Zp (Instr.makeSlice 43 (.int .i64 16) (.int .i64 16)) (.one (.l .slice)) k) Post:=fun h=>
  mg (e:=3) (m:=1) (bytes:=8) (z:= .int .i64 0) (by kernel_rfl) (by kernel_rfl) rfl (by omega) (by omega) (by omega) fun b=>h _ rfl;have m2:∀{ρ0 ρ:FR} {L:List aD} {Post:Value→List aD→Prop} {k:RT (.one (.l .ptr))→Tree},(∀b:Nat,Tr ρ0 ρ (bX b (List.replicate 512 (0,0))::L) (k (oA b)) Post)→
   Tr ρ0 ρ L (call Zp 40 [] (.one (.l .ptr)) k) Post:=fun h=>by apply ai JV ar;rintro _ _ ⟨b,rfl,rfl⟩;exact h b
 have fin:∀(br bn bf bp:Nat) (s:av) {LL R':List aD},s.n=16→LL.Perm ([au br [pA bh,.slice none 0 0,i64 0],bX bn (List.replicate 512 (0,0)),aw s 1 ((List.replicate 16 (0:Int)).map i64),au bf [pA bh,.slice none 0 0,.slice none 0 0],au bp [pA bh,pA br,pA bn,bY s,pA bf,i64 0,i64 ba,i64 stack,i64 0],ct bh (Sp.ch pg.toNat) []]++(au b1 [i64 pg,i64 ba,i64 stack]::R))→
   Tr ρ ρ LL (ret (pA bp)) (SP (.one (.l .ptr)) (fun r M=>∃d:Dl,r=oA d.p∧M=d.A (Rt.new pg ba stack) []) R):=fun br bn bf bp s LL R' hs hp=>by refine Tr.perm hp<|Tr.cg 1 (Tr.none ?_);refine Tr.close ar (bO.cl (rows:=[]) (z:=⟨none,0,0⟩) (l:=[]) rfl rfl)<|Tr.cg 1 (Tr.cg 1 ?_);refine Tr.close ar (cn.cl (wa:=[]) (pe:=[]) (s:=⟨none,0,0⟩) (z:=⟨none,0,0⟩) rfl rfl)<|tC (iJ.cl (d:=⟨bp,bh,br,bn,bf⟩) (x:=Rt.new pg _ _) hs) ?_;refine tD (au _ [i64 pg,i64 ba,i64 stack]) ?_;exact rT ⟨⟨bp,bh,br,bn,bf⟩,rfl,rfl⟩
 repeat' first
  |with_reducible refine cr ?_ ?_
  |with_reducible refine cK ?_
  |with_reducible refine m1 fun _ _=>?_
  |with_reducible refine m2 fun _=>?_
  |with_reducible refine aq fun _=>?_
 all_goals exact fin _ _ _ _ _ (R':=[]) (by assumption) (aI.perm ar)
theorem CV{r:List Int}(h:r≠[]):r.take 1=[r.getD 0 0]:=by
 match r,h with
 |y::ys,_=>rfl
theorem GB(t u sr sp:av)(a1 a2 a3 a4:List Int)(HD:fx ρ t 1 (a1.map i64))(rou:fx ρ u 1 (a3.map i64))(b:Nat)(hl:a1.length+a2.length+a3.length+a4.length<2^38):
  Gl.Spec ρ Zp 190 [.slice (oA b) 4 4] [au b ([(t,a1),(sr,a2),(u,a3),(sp,a4)].map gz),aw sr 1 (a2.map i64),aw sp 1 (a4.map i64)] RS
  fun r M=>r.n=(Mg.merge [a1,a2,a3,a4]).length∧M=[au b ([(t,a1),(sr,a2),(u,a3),(sp,a4)].map gz),aw sr 1 (a2.map i64),aw sp 1 (a4.map i64),aw r 1 ((Mg.merge [a1,a2,a3,a4]).map i64)]:=by
 refine Spec.post (Spec.Ky fun ρ1 hle1 hb=>Spec.own fun ρ2 hle2 r2=>Spec.own fun ρ3 hle3 r3=>Eo ⟨oA b,4,4⟩ [(t,a1),(sr,a2),(u,a3),(sp,a4)] ?_ ?_ ?_ bu) ?_;·obtain⟨ty,hb⟩:=hb;have h13:=hle2.trans hle3;exact fx.le h13 ⟨rfl,.inr ⟨b,0,_,ty,_,rfl,hb,fun i hi=>by simp⟩⟩
 ·intro x hx;have h13:=(hle1.trans hle2).trans hle3;simp only[List.mem_cons,List.not_mem_nil,or_false]at hx;rcases hx with rfl|rfl|rfl|rfl;·exact HD.le h13
  ·exact r2.le hle3
  ·exact rou.le h13
  ·exact r3
 ·simp only[List.flatMap_cons,List.flatMap_nil,List.length_append,List.length_nil];omega
 ·rintro r M ⟨M1,⟨M2,⟨M3,⟨h1,rfl⟩,rfl⟩,rfl⟩,rfl⟩;exact⟨h1,rfl⟩
theorem EB(d:Dl)(x:Rt)(lc:List (aX×av))(H:x.Ok)(jb:x.cs=dK lc)(sr:av)(hsr:sr.n=x.ro.length)(all:Bool):Gl.Spec ρ Zp 132 [pA d.p,.bool all] [au d.p [pA d.h,pA d.r,pA d.n,bY sr,pA d.f,i64 x.ck,i64 x.ba,i64 x.stack,i64 x.rn],aw sr 1 (x.ro.map i64),bO d.r d.h x.rows x.bb,bX d.n x.hs,cn d.f d.h x.wa x.pe,ct d.h x.S lc] L3
  fun r M=>∃s1 s2:av,r=(s1,s2,x.ck,x.free,x.ba,all,x.stack,())∧s1.n=x.roots.length∧s2.n=x.wa.length∧M=aw s1 1 (x.roots.map i64)::aw s2 1 (x.wa.map i64)::[au d.p [pA d.h,pA d.r,pA d.n,bY sr,pA d.f,i64 x.ck,i64 x.ba,i64 x.stack,i64 x.rn],aw sr 1 (x.ro.map i64),bO d.r d.h x.rows x.bb,bX d.n x.hs,cn d.f d.h x.wa x.pe,ct d.h x.S lc]:=by
 refine So (F.aj.aQ.In.calls _ _) fun R=>?_;have hhl:=H.hs.len;refine aq fun b1=>?_;rw[FW];refine iN<|ai (BI _ H.hs) ar ?_;rintro ha _ ⟨hha,rfl⟩;have hal:(Hn.all x.hs).length≤512:=by unfold Hn.all;rw[hhl];exact Hn.gp _
 refine Tr.cL tk fun ρ1 hle1 roh=>Tr.cg 1<|tP ([aw ⟨none,0,0⟩ 1 ((((Hn.all x.hs).take 0).map (·.2)).map i64),bO d.r d.h _ x.bb]++[au d.p [pA d.h,pA d.r,pA d.n,bY sr,pA d.f,i64 x.ck,i64 x.ba,i64 x.stack,i64 x.rn],aw sr 1 _,bX d.n x.hs,cn d.f d.h x.wa x.pe,ct d.h x.S lc,au b1 [.slice none 0 0,.slice none 0 0,.int _ 0,.int _ 0,.int _ 0,.bool false,.int _ 0]]) ?_;refine aM (I:=fun m u M=>∃(j:Nat) (t:av),j≤(Hn.all x.hs).length∧m=(Hn.all x.hs).length-j∧u=(t,(j:Int),())∧t.n=j∧
  M=([aw t 1 ((((Hn.all x.hs).take j).map (·.2)).map i64),bO d.r d.h x.rows x.bb]++[au d.p [pA d.h,pA d.r,pA d.n,bY sr,pA d.f,i64 x.ck,i64 x.ba,i64 x.stack,i64 x.rn],aw sr 1 (x.ro.map i64),bX d.n x.hs,cn d.f d.h x.wa x.pe,ct d.h x.S lc,au b1 [.slice none 0 0,.slice none 0 0,.int .i64 0,.int .i64 0,.int .i64 0,.bool false,.int .i64 0]])++R) (Hn.all x.hs).length ⟨0,_,by omega,rfl,rfl,rfl,rfl⟩ ?_;rintro m _ _ ⟨j,t,hj,rfl,rfl,ht,rfl⟩ X hX;try dsimp only
 refine ag (fun hc=>?_) (fun hc=>?_)
 ·have hj':(j:Int)<ha.n:=oT hc;have hjl:j<(Hn.all x.hs).length:=by omega
  obtain⟨g1,g2⟩:=kL hjl;refine bz roh ae hj' fun a0 ha0=>cu ha0 roh (by rintro b o rfl;rw[aO,aO];rfl) g2<|dm bJ tk (by rw[List.length_map,List.length_take];omega) fun v hv=>?_;rw[bG];have e:((Hn.all x.hs).take j).map (·.2)++[(Hn.bM (Hn.all x.hs) j).2]=((Hn.all x.hs).take (j+1)).map (·.2):=by rw[aE (0,0) hjl,List.map_append];rfl
  rw[e];rw[List.length_map,List.length_take,Nat.min_eq_left ae]at hv;exact hX _ _ _ ae ⟨j+1,v,ae,rfl,rfl,hv,rfl⟩
 ·have hj':¬(j:Int)<ha.n:=oF hc;rw[List.take_of_length_le ae];refine Tr.cL tk fun ρ2 hle2 HD=>?_;have hfew:=H.rows.sZ;refine Tr.cg 1<|tP ([aw ⟨none,0,0⟩ 1 (((x.rows.take 0).flatMap (·.take 1)).map i64),bO d.r d.h _ x.bb]++[au d.p [pA d.h,pA d.r,pA d.n,bY sr,pA d.f,i64 x.ck,i64 x.ba,i64 x.stack,i64 x.rn],aw sr 1 _,bX d.n x.hs,cn d.f d.h x.wa x.pe,ct d.h x.S lc,au b1 [.slice _ 0 0,.slice _ 0 0,.int _ 0,.int _ 0,.int _ 0,.bool false,.int _ 0]]) ?_;refine aM (I:=fun m u M=>∃(j:Nat) (t:av),j≤x.rows.length∧m=x.rows.length-j∧u=(t,(j:Int),())∧t.n=((x.rows.take j).flatMap (·.take 1)).length∧
   M=([aw t 1 (((x.rows.take j).flatMap (·.take 1)).map i64),bO d.r d.h x.rows x.bb]++[au d.p [pA d.h,pA d.r,pA d.n,bY sr,pA d.f,i64 x.ck,i64 x.ba,i64 x.stack,i64 x.rn],aw sr 1 (x.ro.map i64),bX d.n x.hs,cn d.f d.h x.wa x.pe,ct d.h x.S lc,au b1 [.slice none 0 0,.slice none 0 0,.int .i64 0,.int .i64 0,.int .i64 0,.bool false,.int .i64 0]])++R) x.rows.length ⟨0,_,by omega,rfl,rfl,rfl,rfl⟩ ?_;rintro m _ _ ⟨j,u,hj,rfl,rfl,hu,rfl⟩ X hX;try dsimp only
  have hfl:=m6 (rows:=x.rows.take j);have hftl:(x.rows.take j).length=j:=by rw[List.length_take];omega
  refine iN<|af (bO.op tk fun z l hz hl=>?_);have hll:l.length=x.rows.length:=by rw[←hl,List.length_map]
  refine iL<|ag (fun hc=>?_) (fun hc=>?_)
  ·have hj':(j:Int)<z.n:=oT hc;have hkl:j<l.length:=by omega
   have hxr:=pE hl j;have hcell:=iA hkl;have hrow:x.rows[j]? =some (x.rows.getD j []):=by rw[List.getD_eq_getElem?_getD,List.getElem?_eq_getElem ae];rfl
   have ef:(x.rows.take (j+1)).flatMap (·.take 1)=(x.rows.take j).flatMap (·.take 1)++(x.rows.getD j []).take 1:=by rw[List.take_add_one,hrow,List.flatMap_append];simp
   refine Tr.sp hkl tk ?_;rw[←hxr]at ef;generalize hy:l.getD j yT=y at*;refine Tr.fu tk fun hyn=>iN<|af ?_;refine iL ?_;refine bD tk ae ae fun y0 hy0=>cw hy0 tk fX hcell ?_;rw[bG (n:=(j:Int)+1)];refine ag (fun h3=>?_) (fun h3=>?_)
   ·have h3:=oT h3;have hne:y.2≠[]:=fun e=>by rw[e]at hyn;rw[hyn]at h3;simp at h3
    refine iN<|af ?_;refine iL ?_;refine bD tk ae ae fun y0 hy0=>cw hy0 tk fX hcell<|bt tk bd ae<|dm bJ tk ae fun v hv=>?_;rw[CV hne]at ef;change Tr _ _ (aw v 1 (((x.rows.take j).flatMap (·.take 1)++[y.2.getD 0 0]).map i64)::_) _ _;rw[←ef];refine Tr.close (M:=[lL y,star _]) ar (fun h H=>tM hkl h (by rw[hy];exact H))<|tC (bO.cl hz hl) ?_;exact tP ([aw v 1 (((x.rows.take (j+1)).flatMap (·.take 1)).map i64),bO d.r d.h x.rows x.bb]++[au d.p [pA d.h,pA d.r,pA d.n,bY sr,pA d.f,i64 x.ck,i64 x.ba,i64 x.stack,i64 x.rn],aw sr 1 (x.ro.map i64),bX d.n x.hs,cn d.f d.h x.wa x.pe,ct d.h x.S lc,au b1 [.slice none 0 0,.slice none 0 0,.int .i64 0,.int .i64 0,.int .i64 0,.bool false,.int .i64 0]])
     (hX (x.rows.length-(j+1)) _ _ (by omega) ⟨j+1,v,by omega,rfl,rfl,by rw[ef,List.length_append];exact hv,rfl⟩)
   ·have h3:=oF h3;have he:y.2=[]:=List.eq_nil_of_length_eq_zero ae;rw[he,List.take_nil,List.append_nil]at ef;refine Tr.close (M:=[lL y,star _]) ar (fun h H=>tM hkl h (by rw[hy];exact H))<|tC (bO.cl hz hl) ?_;exact tP ([aw u 1 (((x.rows.take j).flatMap (·.take 1)).map i64),bO d.r d.h x.rows x.bb]++[au d.p [pA d.h,pA d.r,pA d.n,bY sr,pA d.f,i64 x.ck,i64 x.ba,i64 x.stack,i64 x.rn],aw sr 1 (x.ro.map i64),bX d.n x.hs,cn d.f d.h x.wa x.pe,ct d.h x.S lc,au b1 [.slice none 0 0,.slice none 0 0,.int .i64 0,.int .i64 0,.int .i64 0,.bool false,.int .i64 0]])
     (hX (x.rows.length-(j+1)) _ _ (by omega) ⟨j+1,u,by omega,rfl,rfl,by rw[ef];exact hu,by rw[ef]⟩)
  ·have hj':¬(j:Int)<z.n:=oF hc;refine tC (bO.cl hz hl) ?_;rw[List.take_of_length_le ae]at hu hfl⊢;refine Tr.cL tk fun ρ5 hle5 rou=>?_;replace HD:=HD.le hle5;refine cn.op tk fun sw sp hsw hsp=>ct.op tk fun ps sc hsc=>aA (aK [au _ [pA d.h,pA d.r,pA d.n,bY sr,pA d.f,i64 x.ck,i64 x.ba,i64 x.stack,i64 x.rn],au _ [pA d.h,.slice _ _ sw.c,.slice _ _ sp.c],au _ [pA ps,bY sc]] ar ?_);refine af (hS _ 3 _ ?_);refine af (hP _ 4 _ ?_);refine af (hS _ 2 _ ?_);refine af (hP _ 4 _ ?_);refine af (hS _ 1 _ ?_);refine af (hI _ 5 _ ?_);refine af (hP _ 0 _ ?_);refine af (hP _ 0 _ ?_);refine af (hP _ 0 _ ?_);refine af (hP _ 0 _ ?_);refine af (hI _ 6 _ ?_);refine af (hI _ 7 _ ?_);have hwl:=H.hw.wf.len;have hwm:=H.hw.wf.fF;have hro:=H.ro;have hpe:=H.pe;have hwa:=H.wa;have hul:=o0 H.hw.wf;have mrg:=fun b3=>GB t u sr sp _ x.ro _ x.pe HD rou b3 (by rw[List.length_map];omega);have fin:∀(b3:Nat) (r39 r41:av) {LL:List aD},r39.n=x.roots.length→r41.n=x.wa.length→LL.Perm ([au d.p [pA d.h,pA d.r,pA d.n,bY sr,pA d.f,i64 x.ck,i64 x.ba,i64 x.stack,i64 x.rn],au d.f [pA d.h,.slice sw.a sw.n sw.c,.slice sp.a sp.n sp.c],au d.h [pA ps,bY sc]]++[aw r39 1 (x.roots.map i64),aw r41 1 (x.wa.map i64),au b3 ([(t,(Hn.all x.hs).map (·.2)),(sr,x.ro),(u,x.rows.flatMap (·.take 1)),(sp,x.pe)].map gz),aw sr 1 (x.ro.map i64),aw sp 1 (x.pe.map i64),aw sw 1 (x.wa.map i64),bO d.r d.h x.rows x.bb,bX d.n x.hs,ay ps x.S,aw sc 2 (lc.flatMap iX),star (lc.map nJ),au b1 [.slice none 0 0,.slice none 0 0,.int .i64 0,.int .i64 0,.int .i64 0,.bool false,.int .i64 0]]++R)→
     Tr ρ ρ5 LL (aZ (Sat ρ5 [au d.p [pA d.h,pA d.r,pA d.n,bY sr,pA d.f,i64 x.ck,i64 x.ba,i64 x.stack,i64 x.rn],au d.f [pA d.h,.slice sw.a sw.n sw.c,.slice sp.a sp.n sp.c],au d.h [pA ps,bY sc]])<|call Zp 63 [pA ps] (.one (.l kI)) fun(r42:Int)=>aZ (Sat ρ5 [au d.p [pA d.h,pA d.r,pA d.n,bY sr,pA d.f,i64 x.ck,i64 x.ba,i64 x.stack,i64 x.rn],au d.f [pA d.h,.slice sw.a sw.n sw.c,.slice sp.a sp.n sp.c],au d.h [pA ps,bY sc]])<|call Zp 62 [pA ps] (.one (.l kI)) fun(r43:Int)=>aZ (Sat ρ5 [au d.p [pA d.h,pA d.r,pA d.n,bY sr,pA d.f,i64 x.ck,i64 x.ba,i64 x.stack,i64 x.rn],au d.f [pA d.h,.slice sw.a sw.n sw.c,.slice sp.a sp.n sp.c],au d.h [pA ps,bY sc]])<|
      st (⟨b1,0,none⟩) [.slice r39.a r39.n r39.c,.slice r41.a r41.n r41.c,.int .i64 x.ck,.int .i64 (IntKind.wrap .i64 (r42-r43)),.int .i64 x.ba,.bool all,.int .i64 x.stack]<|
      ld (.g [.slice,.slice,kI,kI,kI,.bool,kI]) (⟨b1,0,none⟩) fun(x44:LTs _)=>
      ret (.agg #[.slice x44.1.a x44.1.n x44.1.c,.slice x44.2.1.a x44.2.1.n x44.2.1.c,.int .i64 x44.2.2.1,.int .i64 x44.2.2.2.1,.int .i64 x44.2.2.2.2.1,.bool x44.2.2.2.2.2.1,.int .i64 x44.2.2.2.2.2.2.1]))
      (SP L3 (fun r M=>∃s1 s2:av,r=(s1,s2,x.ck,x.free,x.ba,all,x.stack,())∧s1.n=x.roots.length∧s2.n=x.wa.length∧M=aw s1 1 (x.roots.map i64)::aw s2 1 (x.wa.map i64)::[au d.p [pA d.h,pA d.r,pA d.n,bY sr,pA d.f,i64 x.ck,i64 x.ba,i64 x.stack,i64 x.rn],aw sr 1 (x.ro.map i64),bO d.r d.h x.rows x.bb,bX d.n x.hs,cn d.f d.h x.wa x.pe,ct d.h x.S lc]) R):=fun b3 r39 r41 LL h1 h2 hp=>by refine Tr.perm hp (cK ?_);apply cE (Gc _ _ H.hw.wf);refine cK<|cE (sY _ _ H.hw.wf) ?_;refine cK<|iT ?_;rw[bG (n:=((x.S.ws.length-64:Nat):Int)-_)];refine aN (x:=(r39,r41,x.ck,x.free,x.ba,all,x.stack,())) [] rfl tk rfl<|tD (au b3 _) ?_;refine tC (cn.cl hsw hsp) ?_;refine tC (ct.cl hsc) ?_;exact rT ⟨r39,r41,rfl,h1,h2,rfl⟩
   refine cr ?_ ?_
   ·refine aq fun b38=>aS ar (cr ?_ ?_);·refine ai (mrg _) ar ?_;rintro r39 _ ⟨h39,rfl⟩;refine aS ar (aq fun b40=>aS ar ?_);refine Tr.imp tk gR<|bj (s:=⟨oA b40,0,0⟩) cx tk (Rd.sl tk (by rw[List.length_map];omega)) (by show 0+_<_;omega) fun v hv=>?_;rw[←List.length_append]at hv;exact fin _ _ v h39 hv (aI.perm ar)
    ·refine aq fun b40=>aS ar<|ai (mrg _) ar ?_;rintro r39 _ ⟨h39,rfl⟩;refine cK<|Tr.imp tk gR<|bj (s:=⟨oA b40,0,0⟩) cx tk (Rd.sl tk (by rw[List.length_map];omega)) (by show 0+_<_;omega) fun v hv=>?_;rw[←List.length_append]at hv;exact fin _ _ v h39 hv (aI.perm ar)
   ·refine aq fun b40=>aS ar (aq fun b38=>aS ar ?_);refine ai (mrg _) ar ?_;rintro r39 _ ⟨h39,rfl⟩;refine cK<|Tr.imp tk gR<|bj (s:=⟨oA b40,0,0⟩) cx tk (Rd.sl tk (by rw[List.length_map];omega)) (by show 0+_<_;omega) fun v hv=>?_;rw[←List.length_append]at hv;exact fin _ _ v h39 hv (aI.perm ar)
def QN(S:aJ)(n:Int):Prop:=∀a,Qu.bR S a=true→(Ob.get S a 1).1≤n
namespace QN
variable{S S':aJ}{cs:List aX}{n:Int}
theorem le{m:Int}(H:QN S n)(h:n≤m):QN S m:=fun a ha=>by have:=H a ha;omega
theorem mono(H:QN S n)(h:∀a,Qu.bR S' a=true→Qu.bR S a=true∧Ob.get S' a 1=Ob.get S a 1):QN S' n:=fun a ha=>by rw[(h a ha).2];exact H a (h a ha).1
theorem put(hw:aY S cs)(H:QN S n){a i x:Int}(hx:i≠1∨x≤n):QN (Ob.put S a i x).2 n:=fun b hb=>by
 have hr:Qu.bR S b=true:=by rw[cQ hw]at hb;exact hb
 rw[cR hw hr bd bd];split;·omega
 ·exact H b hr
theorem iu(l:List Int):∀{S:aJ},aY S cs→QN S n→QN (Rf.iu S l) n:=by
 induction l with
 |nil=>exact fun _ h=>h
 |cons a l ih=>exact fun hw h=>ih (hw.put a 0 0) (h.put hw (.inl bd))
theorem clear(hw:aY S cs)(H:QN S n)(l:List Int):QN (Rf.clear S l).2 n:=by
 unfold Rf.clear;split;·exact H.iu l hw
 ·exact H
theorem push(hw:aY S cs)(H:QN S n)(rows:List (List Int))(i a:Int):QN (Qu.bP S rows i a) n:=by
 unfold Qu.bP;split
 ·split;·exact H.put hw (.inl bd)
  ·exact(H.put hw (.inl bd)).put (hw.put _ _ _) (.inl bd)
 ·exact H
theorem dJ(hw:aY S cs)(hq:QB S)(H:QN S n)(hn:0≤n)(rows:List (List Int))(a:Int):QN (Rf.dJ S rows a).2.1 n:=by
 have hw1:=hw.put a 0 0;have hq1:QB (Ob.put S a 0 0).2:=hq.put hw (.inl bd);have h1:QN (Ob.put S a 0 0).2 n:=H.put hw (.inl bd);unfold Rf.dJ;split
 ·split;·exact h1
  ·split;·exact h1.push hw1 _ _ _
   ·exact(h1.push hw1 _ _ _).put (mO hw1 hq1 _ _ _).1 (.inr ae)
 ·exact H
theorem cc(hn:0≤n):∀(l:List Int) {S:aJ} {rows:List (List Int)},aY S cs→QB S→NZ rows→QN S n→QN (Rf.cc S rows l).1 n
 |[],_,_,_,_,_,h=>h
 |a::l,S,rows,hw,hq,hz,h=>by obtain⟨h1,h2,h3,_⟩:=xw hw hq hz a;exact cc hn l h1 h2 h3 (h.dJ hw hq hn _ a)
end QN
theorem wF(S:aJ)(rows:List (List Int))(i a:Int):(Qu.dN S rows i a).length=rows.length:=by unfold Qu.dN;grind
theorem Cd(S:aJ)(rows:List (List Int))(a:Int):(Rf.dJ S rows a).2.2.length=rows.length:=by
 unfold Rf.dJ;split
 ·split;·rfl
  ·split;·exact wF ..
   ·exact wF ..
 ·rfl
theorem vt:∀(l:List Int) (S:aJ) (rows:List (List Int)),(Rf.cc S rows l).2.length=rows.length
 |[],_,_=>rfl
 |a::l,S,rows=>(vt l (Rf.dJ S rows a).2.1 (Rf.dJ S rows a).2.2).trans (Cd S rows a)
theorem Kn.mono{S S':aJ}{cs:List aX}(H:Kn S cs)(h:∀a hd,Ob.head S' a=some hd→Ob.head S a=some hd):Kn S' cs:=fun a hd hh hk=>H a hd (h a hd hh) hk
structure Rt.Ay(x:Rt):Prop where
 qn:QN x.S x.rows.length
 kn:Kn x.S x.cs
 cl:∀c∈x.cs,c.2.length≤1023
theorem Rt.Ay.after{x:Rt}{N:Int}(D:x.Ay)(I:x.Inv N)(hN:N<2^50){y:pS}{l:List da}{m2 m3:List Bool}(hC:kl x.S x.cs y x.roots x.wa l m2 m3):(x.after (aU x.S m2 m3 l) (bV x.S m3 (aU x.S m2 m3 l)) (bI x.S m2 x.wa) (Mk.all m3)).Ay:=by
 have hw:=I.w.hw;have ok:=I.JW hN;have hz:=uL ok.rows;have H1:=I.w.clear (aU x.S m2 m3 l);have q1:=D.qn.clear hw (aU x.S m2 m3 l);have hh1:∀b,Ob.head (Rf.clear x.S (aU x.S m2 m3 l)).2 b=Ob.head x.S b:=fun b=>by
  unfold Rf.clear;split;·exact oL _ hw b
  ·rfl
 unfold Rt.after;generalize bV x.S m3 (aU x.S m2 m3 l)=pu at*;generalize(Rf.clear x.S (aU x.S m2 m3 l)).2=S1 at*;have qb1:=H1.r.qb;obtain⟨e1,_,_⟩:=o8 (l:=pu) H1.hw qb1 hz;have q2:=QN.cc ae pu H1.hw qb1 hz q1;have hh2:=rm pu (rows:=x.rows) H1.hw;have hl:=vt pu S1 x.rows;have Lf:=Sw.nN e1 (Mk.all m3);have hd3:∀b hd,Ob.head (Sw.fo (Rf.cc S1 x.rows pu).1 (Mk.all m3)) b=some hd→Ob.head (Rf.cc S1 x.rows pu).1 b=some hd:=fun b hd hh=>by rw[Lf.head]at hh;grind
 refine⟨?_,?_,D.cl⟩;·rw[hl];refine q2.mono fun b hb=>?_;obtain⟨hd,hh,hk⟩:=bx hb;have hn:=jm Lf.hw hh hk;refine⟨?_,by rw[Ob.eb hh bd ae,Ob.eb (hd3 b _ hh) bd ae,Lf.ws]⟩;unfold Qu.bR;grind
 ·exact D.kn.mono fun a hd hh=>by grind
theorem Rt.Inv.key{x:Rt}{N:Int}(I:x.Inv N):rQ x.S:=I.w.r.key I.w.hw
theorem Bc(d:Dl)(x:Rt)(lc:List (aX×av)){N:Int}(I:x.Inv N)(hN:N<2^50)(D:x.Ay)(jb:x.cs=dK lc)(hln:∀y∈lc,y.2.n=y.1.2.length)(all:Bool):
  Gl.Spec ρ Zp 60 [pA d.p,.bool all] (d.A x lc) (.many [.g yo,.l kI])
  fun r M=>∃(z1 z2 s1 s2 s3 s4:av) (l:List da) (m2 m3:List Bool) (n:Int),kl x.S x.cs (x.CS z1 z2 all) x.roots x.wa l m2 m3∧r=((s1,s2,s3,s4,()),n,())∧
   n=((Sw.dead (Rf.cc (Rf.clear x.S (aU x.S m2 m3 l)).2 x.rows (bV x.S m3 (aU x.S m2 m3 l))).1 (Mk.all m3)).length:Nat)∧
   M=[aw s1 1 ((aU x.S m2 m3 l).map i64),aw s2 1 ((bV x.S m3 (aU x.S m2 m3 l)).map i64),aw s3 1 ((bI x.S m2 x.wa).map i64),aw s4 1 ((Mk.all m3).map i64)]++d.A (x.after (aU x.S m2 m3 l) (bV x.S m3 (aU x.S m2 m3 l)) (bI x.S m2 x.wa) (Mk.all m3)) lc:=by
 refine So (F.aj.aQ.Collect.calls _ _) fun R=>?_;unfold F.aj.aQ.Collect;try simp only[c8,c9]
 have H:=I.JW hN;have hw:=H.hw;have hwd:aY x.S (dK lc):=jb▸hw;refine aq fun b1=>?_;rw[vM];refine iV (fun j M=>∃(b:Nat) (z1 z2 s1 s2 s3 s4:av) (l:List da) (m2 m3:List Bool),j=(⟨b,0,none⟩,())∧kl x.S x.cs (x.CS z1 z2 all) x.roots x.wa l m2 m3∧
  M=[au b (BY s1 s2 s3 s4),au b1 (BY ⟨none,0,0⟩ ⟨none,0,0⟩ ⟨none,0,0⟩ ⟨none,0,0⟩),aw s1 1 ((aU x.S m2 m3 l).map i64),aw s2 1 ((bV x.S m3 (aU x.S m2 m3 l)).map i64),aw s3 1 ((bI x.S m2 x.wa).map i64),aw s4 1 ((Mk.all m3).map i64)]++(d.A x lc++R)) ?_ ?_
 ·rintro _ _ ⟨b,z1,z2,s1,s2,s3,s4,l,m2,m3,rfl,hco,rfl⟩;have hlf:=kl.sZ hw hco;have hcl:(aU x.S m2 m3 l).length<2^20:=by unfold aU;rw[List.length_append];have h1:=g9 (S:=x.S) (m:=m2) (xs:=[1,2]) (l:=l);have h2:=g9 (S:=x.S) (m:=m3) (xs:=[3]) (l:=l);omega
  have hpu:(bV x.S m3 (aU x.S m2 m3 l)).length<2^20:=by unfold bV;have:=List.length_filter_le (fun a=>Sp.has m3 a&&decide ((Ob.get x.S a 1).1>0)) (aU x.S m2 m3 l);omega
  have hpn:(bI x.S m2 x.wa).length≤x.wa.length:=sS;have hlv:(Mk.all m3).length<2^40:=by have h1:=Mk.gp (m:=m3);have h2:=hco.c3.len;have hwl:=H.hw.wf.len;have hwm:=H.hw.wf.fF;omega
  have hwa:=H.wa;have hpe:=H.pe;have hwan:x.wa.Nodup:=I.w.f.nd.sublist (List.sublist_append_left ..);have hQ1:QI (Rf.clear x.S (aU x.S m2 m3 l)).2 x.rows:=(I.w.clear _).q;have hN1:=D.qn.clear hw (aU x.S m2 m3 l);unfold Rt.after;generalize hce:aU x.S m2 m3 l=cl at*;generalize hpue:bV x.S m3 cl=pu at*;generalize hpne:bI x.S m2 x.wa=pn at*;generalize hlve:Mk.all m3=lv at*;refine aA (af (iJ.op (d:=d) (x:=x) tk fun sr hsr=>?_));refine iL<|iL<|ai (Spec.own fun ρ1 hle1 r1=>yG d.r d.h x.S lc hwd x.rows x.bb s1 cl r1 ae) ar ?_;rintro _ _ ⟨_,⟨rfl,rfl⟩,rfl⟩;try simp only[c8,c9]
  have hS1:aY (Rf.clear x.S cl).2 x.cs∧QB (Rf.clear x.S cl).2:=by
   unfold Rf.clear;split;·exact ud hw H.qb
   ·exact⟨hw,H.qb⟩
  generalize hSe:(Rf.clear x.S cl).2=S1 at*;refine Tr.fu (s:=s2) (xs:=pu) tk fun hn2=>Tr.perm (aI.perm (M:=[aw s1 1 (cl.map i64),aw s2 1 _,aw s3 1 (pn.map i64),aw s4 1 _,au b _,au b1 _,au d.p [pA d.h,pA d.r,pA d.n,bY sr,pA d.f,i64 x.ck,i64 x.ba,i64 x.stack,i64 x.rn],aw sr 1 _,bO d.r d.h (Rf.cc S1 x.rows (pu.take 0)).2 x.bb,bX d.n x.hs,cn d.f d.h x.wa x.pe,ct d.h (Rf.cc S1 x.rows (pu.take 0)).1 lc]) ar) ?_;refine aM (I:=fun m u M=>∃j:Nat,j≤pu.length∧m=pu.length-j∧u=((j:Int),())∧
   M=[aw s1 1 (cl.map i64),aw s2 1 (pu.map i64),aw s3 1 (pn.map i64),aw s4 1 (lv.map i64),au b (BY s1 s2 s3 s4),au b1 (BY ⟨none,0,0⟩ ⟨none,0,0⟩ ⟨none,0,0⟩ ⟨none,0,0⟩),au d.p [pA d.h,pA d.r,pA d.n,bY sr,pA d.f,i64 x.ck,i64 x.ba,i64 x.stack,i64 x.rn],aw sr 1 (x.ro.map i64),bO d.r d.h (Rf.cc S1 x.rows (pu.take j)).2 x.bb,bX d.n x.hs,cn d.f d.h x.wa x.pe,ct d.h (Rf.cc S1 x.rows (pu.take j)).1 lc]++R) pu.length ⟨0,by omega,rfl,rfl,rfl⟩ ?_;rintro m _ _ ⟨j,hj,rfl,rfl,rfl⟩ X hX;try dsimp only
  try simp only[c8,c9]
  refine iL<|ag (fun hc=>?_) (fun hc=>?_)
  ·have hj':(j:Int)<(s2.n:Nat):=oT hc;have hjl:j<pu.length:=by omega
   refine aA (af ?_);refine iL<|iL ?_;apply bt tk ae ae;rw[Int.toNat_natCast];obtain⟨e1,e2,e3⟩:=o8 (l:=pu.take j) hS1.1 hS1.2 (uL H.rows);obtain⟨q1,q2,_⟩:=QI.cc (pu.take j) hS1.1 hQ1;have q3:=QN.cc ae (pu.take j) hS1.1 hS1.2 (uL H.rows) hN1;have q4:=vt (pu.take j) S1 x.rows;have q5:=q1.Gn q2;have q6:=q1.sZ;apply cE (Fx d.r _ (Rf.cc S1 _ _).1 lc (jb▸e1) (Rf.cc S1 _ _).2 (fun r hr=>by have:=q5.len r hr;omega) x.bb _ ae q1 (fun ha=>by rw[q4];exact q3 _ ha));try simp only[c8,c9]
   rw[wrap64 (by omega) (by omega)];have es:Rf.cc S1 x.rows (pu.take (j+1))=(Rf.dJ (Rf.cc S1 x.rows (pu.take j)).1 (Rf.cc S1 x.rows (pu.take j)).2 (pu.getD j 0)).2:=by rw[aE 0 hjl,vN]
   rw[←es];exact Tr.perm (aI.perm (M:=[aw s1 1 (cl.map i64),aw s2 1 (pu.map i64),aw s3 1 (pn.map i64),aw s4 1 (lv.map i64),au b (BY s1 s2 s3 s4),au b1 (BY ⟨none,0,0⟩ ⟨none,0,0⟩ ⟨none,0,0⟩ ⟨none,0,0⟩),au d.p [pA d.h,pA d.r,pA d.n,bY sr,pA d.f,i64 x.ck,i64 x.ba,i64 x.stack,i64 x.rn],aw sr 1 (x.ro.map i64),bO d.r d.h (Rf.cc S1 x.rows (pu.take (j+1))).2 x.bb,bX d.n x.hs,cn d.f d.h x.wa x.pe,ct d.h (Rf.cc S1 x.rows (pu.take (j+1))).1 lc]) ar) (hX (pu.length-(j+1)) _ _ (by omega) ⟨j+1,by omega,rfl,rfl,rfl⟩)
  ·have hj':¬(j:Int)<(s2.n:Nat):=oF hc;rw[List.take_of_length_le (by omega)];obtain⟨e1,e2,e3⟩:=o8 (l:=pu) hS1.1 hS1.2 (uL H.rows);generalize hq:Rf.cc S1 x.rows pu=q at*;obtain⟨S2,rows2⟩:=q;dsimp only at*;refine aA (af ?_);refine iL<|iL<|ai (Spec.own fun ρ1 hle1 r1=>HG d.f d.h x.wa x.pe hwan s3 pn r1 ae) ar ?_;rintro _ _ ⟨_,rfl,rfl⟩;try simp only[c8,c9]
   refine aA (af ?_);refine iL<|iL<|ai (Spec.own (s:=s4) (m:=1) (xs:=lv.map i64) fun ρ1 hle1 r1=>Fj d.h S2 lc (jb▸e1) s4 lv r1 hlv) ar ?_;rintro _ _ ⟨_,⟨rfl,rfl⟩,rfl⟩;try simp only[c8,c9]
   refine af<|iL ?_;have hrn:=H.rn;rw[bG (n:=x.rn+1)];refine af<|cz (off:=8) bL tk bu rfl<|iG<|iT ?_;refine aN (b:=b1) (off:=0) (x:=(s1,s2,s3,s4,())) [] rfl tk rfl ?_;have h2:S2=(Rf.cc S1 x.rows pu).1:=by rw[hq]
   have h3:rows2=(Rf.cc S1 x.rows pu).2:=by rw[hq]
   clear hq;subst h2 h3 hSe hlve hpne hpue hce;exact Tr.close ar (iJ.cl (d:=d) (x:=x.after (aU x.S m2 m3 l) (bV x.S m3 (aU x.S m2 m3 l)) (bI x.S m2 x.wa) (Mk.all m3)) (s:=sr) hsr)<|ax (x:=((s1,s2,s3,s4,()),(_:Int),())) rfl ⟨z1,z2,s1,s2,s3,s4,l,m2,m3,_,hco,rfl,rfl,rfl⟩ ar bE
 ·intro X hX;refine iJ.op (d:=d) (x:=x) tk fun sr hsr=>aA (aK [au _ [pA d.h,pA d.r,pA d.n,bY sr,pA d.f,i64 x.ck,i64 x.ba,i64 x.stack,i64 x.rn]] ar ?_);refine af (bo bL tk rfl ?_);have fin:∀(b:Nat) (z1 z2 s1 s2 s3 s4:av) (l:List da) (m2 m3:List Bool) {LL:List aD},kl x.S x.cs (x.CS z1 z2 all) x.roots x.wa l m2 m3→
    LL.Perm ([au b (BY ⟨none,0,0⟩ ⟨none,0,0⟩ ⟨none,0,0⟩ ⟨none,0,0⟩),au b1 (BY ⟨none,0,0⟩ ⟨none,0,0⟩ ⟨none,0,0⟩ ⟨none,0,0⟩),aw s1 1 ((aU x.S m2 m3 l).map i64),aw s2 1 ((bV x.S m3 (aU x.S m2 m3 l)).map i64),aw s3 1 ((bI x.S m2 x.wa).map i64),aw s4 1 ((Mk.all m3).map i64),aw z1 1 (x.roots.map i64),aw z2 1 (x.wa.map i64),au d.p [pA d.h,pA d.r,pA d.n,bY sr,pA d.f,i64 x.ck,i64 x.ba,i64 x.stack,i64 x.rn],aw sr 1 (x.ro.map i64),bO d.r d.h x.rows x.bb,bX d.n x.hs,cn d.f d.h x.wa x.pe,ct d.h x.S lc]++R)→
    Tr ρ ρ LL (st (⟨b,0,none⟩) [.slice s1.a s1.n s1.c,.slice s2.a s2.n s2.c,.slice s3.a s3.n s3.c,.slice s4.a s4.n s4.c]<|X (⟨b,0,none⟩,())) (SP (.many [.g yo,.l kI]) (fun r M=>∃(z1 z2 s1 s2 s3 s4:av) (l:List da) (m2 m3:List Bool) (n:Int),kl x.S x.cs (x.CS z1 z2 all) x.roots x.wa l m2 m3∧r=((s1,s2,s3,s4,()),n,())∧
   n=((Sw.dead (Rf.cc (Rf.clear x.S (aU x.S m2 m3 l)).2 x.rows (bV x.S m3 (aU x.S m2 m3 l))).1 (Mk.all m3)).length:Nat)∧
   M=[aw s1 1 ((aU x.S m2 m3 l).map i64),aw s2 1 ((bV x.S m3 (aU x.S m2 m3 l)).map i64),aw s3 1 ((bI x.S m2 x.wa).map i64),aw s4 1 ((Mk.all m3).map i64)]++d.A (x.after (aU x.S m2 m3 l) (bV x.S m3 (aU x.S m2 m3 l)) (bI x.S m2 x.wa) (Mk.all m3)) lc) R):=fun b z1 z2 s1 s2 s3 s4 l m2 m3 LL hco hp=>by refine Tr.perm hp<|iT ?_;exact Tr.drop (A:=aw z1 1 _) tk<|Tr.drop (A:=aw z2 1 _) tk<|Tr.close ar (iJ.cl (d:=d) (x:=x) (s:=sr) hsr)<|Tr.perm (aI.perm (M:=[au b (BY s1 s2 s3 s4),au b1 (BY ⟨none,0,0⟩ ⟨none,0,0⟩ ⟨none,0,0⟩ ⟨none,0,0⟩),aw s1 1 ((aU x.S m2 m3 l).map i64),aw s2 1 ((bV x.S m3 (aU x.S m2 m3 l)).map i64),aw s3 1 ((bI x.S m2 x.wa).map i64),aw s4 1 ((Mk.all m3).map i64)]++d.A x lc) ar) (hX _ _ ⟨b,z1,z2,s1,s2,s3,s4,l,m2,m3,rfl,hco,rfl⟩)
  have hroots:x.roots.length<2^30:=by
   have h1:=Mg.rR [(Hn.all x.hs).map (·.2),x.ro,x.rows.flatMap (·.take 1),x.pe];have h2:(Hn.all x.hs).length≤512:=by unfold Hn.all;rw[H.hs.len];exact Hn.gp _
   have h3:=m6 (rows:=x.rows);have h4:=H.rows.sZ;have h5:=H.pe;have h6:=H.ro;simp only[List.flatten_cons,List.flatten_nil,List.length_append,List.length_nil,List.length_map]at h1;unfold Rt.roots;omega
  have hful:=o0 H.hw.wf;have hwl:=H.hw.wf.len;have hwm:=H.hw.wf.fF;have proc:∀(ρ':FR) (s1 s2:av),fx ρ' s1 1 (x.roots.map i64)→fx ρ' s2 1 (x.wa.map i64)→Gl.Spec ρ' Zp 131 [pA d.h,LS (x.CS s1 s2 all)] [ct d.h x.S lc] (.one (.g yo)) _:=fun ρ' s1 s2 r1 r2=>
   BJ d.h x.S lc hwd (jb▸D.kn) hln (jb▸D.cl) I.key (x.CS s1 s2 all) ⟨H.ck,(by show x.free<_;unfold Rt.free Rt.used;omega),H.ba⟩ x.roots x.wa r1 r2 hroots (by have:=H.wa;omega) H.st;refine cr ?_ ?_
  ·refine ai (EB d x _ H.toOk jb _ hsr _) ar ?_;rintro _ _ ⟨z1,z2,rfl,hz1,hz2,rfl⟩;try simp only[c8,c9]
   refine aS ar (cr ?_ ?_)
   ·refine ai (Spec.own (s:=z1) (m:=1) (xs:=x.roots.map i64) fun ρ1 hle1 r1=>Spec.own (s:=z2) (m:=1) (xs:=x.wa.map i64) fun ρ2 hle2 r2=>proc ρ2 z1 z2 (r1.le hle2) r2) ar ?_;rintro _ _ ⟨_,⟨_,⟨s1,s2,s3,s4,l,m2,m3,rfl,hco,rfl⟩,rfl⟩,rfl⟩;try simp only[c8,c9]
    rw[←jb]at hco;exact aq fun b=>fin b _ _ _ _ _ _ l _ _ hco (aI.perm ar)
   ·refine aq fun b=>aS ar<|ai (Spec.own (s:=z1) (m:=1) (xs:=x.roots.map i64) fun ρ1 hle1 r1=>Spec.own (s:=z2) (m:=1) (xs:=x.wa.map i64) fun ρ2 hle2 r2=>proc ρ2 z1 z2 (r1.le hle2) r2) ar ?_;rintro _ _ ⟨_,⟨_,⟨s1,s2,s3,s4,l,m2,m3,rfl,hco,rfl⟩,rfl⟩,rfl⟩;try simp only[c8,c9]
    rw[←jb]at hco;exact fin b _ _ _ _ _ _ l _ _ hco (aI.perm ar)
  ·refine aq fun b=>aS ar<|ai (EB d x _ H.toOk jb _ hsr _) ar ?_;rintro _ _ ⟨z1,z2,rfl,hz1,hz2,rfl⟩;try simp only[c8,c9]
   refine aS ar<|ai (Spec.own (s:=z1) (m:=1) (xs:=x.roots.map i64) fun ρ1 hle1 r1=>Spec.own (s:=z2) (m:=1) (xs:=x.wa.map i64) fun ρ2 hle2 r2=>proc ρ2 z1 z2 (r1.le hle2) r2) ar ?_;rintro _ _ ⟨_,⟨_,⟨s1,s2,s3,s4,l,m2,m3,rfl,hco,rfl⟩,rfl⟩,rfl⟩;try simp only[c8,c9]
   rw[←jb]at hco;exact fin b _ _ _ _ _ _ l _ _ hco (aI.perm ar)
theorem Jp{cs:List aX}(l:List Int):∀{S:aJ},aY S cs→∀{b j:Int} {hd:Hd},Ob.head S b=some hd→0≤j→j<hd.n→Ob.get (Rf.iu S l) b j=if b∈l∧j=0 then(0,0)else Ob.get S b j:=by
 induction l with
 |nil=>intro S _ b j hd _ _ _;rfl
 |cons a l ih=>intro S hw b j hd hb j0 j1;have e:=ih (hw.put a 0 0) (by rw[cm hw];exact hb) j0 j1;show Ob.get (Rf.iu (Ob.put S a 0 0).2 l) b j=_;rw[e,kV hw hb j0 j1];grind
theorem CY{S:aJ}{cs:List aX}(hw:aY S cs){rows:List (List Int)}{i a b j:Int}{hd:Hd}(hb:Ob.head S b=some hd)(j0:0≤j)(j1:j<hd.n)(j2:j≠2∨(b≠a∧b∉rows.flatten)):Ob.get (Qu.bP S rows i a) b j=Ob.get S b j:=by
 have n1:¬(b=a∧j=2):=fun g=>j2.elim (fun h=>h g.2) fun h=>h.1 g.1;unfold Qu.bP;split
 ·rename_i hh;rw[Bool.and_eq_true]at hh;split;·rw[kV hw hb j0 j1,if_neg n1]
  ·rename_i hne;have n2:¬(b=(Qu.row rows i).getLastD 0∧j=2):=fun g=>j2.elim (fun h=>h g.2) fun h=>h.2 (by rw[g.1];exact List.mem_flatten.mpr ⟨_,ku hh.1,qu hne⟩);rw[kV (hw.put _ _ _) (by rw[cm hw];exact hb) j0 j1,if_neg n2,kV hw hb j0 j1,if_neg n1]
 ·rfl
theorem Gv{S:aJ}{cs:List aX}(hw:aY S cs){rows:List (List Int)}(H:QI S rows){a i:Int}(hr:Qu.bR S a=true)(hq:(Ob.get S a 1).1=i+1)(i0:0≤i)(i1:i<rows.length):
  (Rf.dJ S rows a).1=(true,0)∧(Rf.dJ S rows a).2.2=rows.set i.toNat (rows.getD i.toNat []++[a])∧a∉rows.flatten∧
   ∀{b j:Int} {hd:Hd},Ob.head S b=some hd→0≤j→j<hd.n→(j≠2∨(b≠a∧b∉rows.flatten))→Ob.get (Rf.dJ S rows a).2.1 b j=if b=a∧j=0 then(0,0)else if b=a∧j=1 then(-1,0)else Ob.get S b j:=by
 have hw1:=hw.put a 0 0;have H1:QI (Ob.put S a 0 0).2 rows:=H.put hw (.inl ⟨by decide,by decide⟩);have hr1:Qu.bR (Ob.put S a 0 0).2 a=true:=by rw[cQ hw];exact hr
 have hqn:Rf.qn S a=i+1:=by unfold Rf.qn;rw[cR hw hr bd bd,if_neg bu];exact hq
 have ha:=H.GZ (by rw[hq];omega);have hh:Qu.has rows (Rf.qn S a-1)=true:=by unfold Qu.has;grind
 obtain⟨p1,p2,p3,p4⟩:=H1.push hw1 hr1 ha hh;unfold Rf.dJ;rw[if_pos hr,if_neg ae,if_neg (fun g=>g p2)];refine⟨rfl,?_,ha,fun{b j hd} hb j0 j1 j2=>?_⟩;·unfold Qu.dN Qu.row;grind
 ·have hb1:Ob.head (Ob.put S a 0 0).2 b=some hd:=by rw[cm hw];exact hb
  rw[kV p3 (by rw[nc hw1];exact hb1) j0 j1,CY hw1 hb1 j0 j1 j2,kV hw hb j0 j1];grind
theorem IP{cs:List aX}(qf:Int→Int)(l:List Int):∀{S:aJ} {rows:List (List Int)},aY S cs→QI S rows→l.Nodup→(∀a∈l,Qu.bR S a=true∧(Ob.get S a 1).1=qf a+1∧0≤qf a∧qf a<rows.length)→
  (Rf.cc S rows l).2.length=rows.length∧(∀j,j<rows.length→(Rf.cc S rows l).2.getD j []=rows.getD j []++l.filter fun a=>qf a==(j:Int))∧
   ∀{b j:Int} {hd:Hd},Ob.head S b=some hd→0≤j→j<hd.n→(j≠2∨(b∉l∧b∉rows.flatten))→Ob.get (Rf.cc S rows l).1 b j=if b∈l∧j=0 then(0,0)else if b∈l∧j=1 then(-1,0)else Ob.get S b j:=by
 induction l with
 |nil=>intro S rows _ _ _ _;refine⟨rfl,fun j _=>by rw[List.filter_nil,List.append_nil];rfl,fun{b j hd} _ _ _ _=>?_⟩;rfl
 |cons a l ih=>
  intro S rows hw H hn h;obtain⟨n1,n2⟩:=List.nodup_cons.mp hn;obtain⟨r1,r2,r3,r4⟩:=h a (.head _);obtain⟨e1,e2,e3,e4⟩:=Gv hw H r1 r2 r3 r4;obtain⟨q1,q2,q3⟩:=H.dJ hw a;have hlen:(Rf.dJ S rows a).2.2.length=rows.length:=by rw[e2,List.length_set]
  have hR:∀b,Qu.bR (Rf.dJ S rows a).2.1 b=Qu.bR S b:=fun b=>by unfold Qu.bR;rw[mG hw]
  obtain⟨g1,g2,g3⟩:=ih (S:=(Rf.dJ S rows a).2.1) (rows:=(Rf.dJ S rows a).2.2) q2 q1 n2 (fun b hb=>by obtain⟨t1,t2,t3,t4⟩:=h b (.tail _ hb);obtain⟨hd,hh,hk⟩:=bx t1;have hn5:=jm hw hh hk;refine⟨by rw[hR];exact t1,?_,t3,by rw[hlen];exact t4⟩;have hne:b≠a:=fun e=>n1 (e▸hb);simp_all);refine⟨g1.trans hlen,fun j hj=>?_,fun{b j hd} hb j0 j1 j2=>?_⟩;·show(Rf.cc (Rf.dJ S rows a).2.1 (Rf.dJ S rows a).2.2 l).2.getD j []=_;grind
  ·have c2:j≠2∨(b∉l∧b∉(Rf.dJ S rows a).2.2.flatten):=j2.imp_right fun h=>⟨fun e=>h.1 (.tail _ e),fun e=>(q3 b e).elim (fun e=>h.1 (by rw[e];exact .head _)) h.2⟩;have:=g3 (by rw[mG hw];exact hb) j0 j1 c2;show Ob.get (Rf.cc (Rf.dJ S rows a).2.1 (Rf.dJ S rows a).2.2 l).1 b j=_;grind
structure MA(S S':aJ)(rows rows':List (List Int))(cl pu:List Int)(m3:List Bool)(qf:Int→Int):Prop where
 head:∀a,Sp.has m3 a=true→Ob.head S' a=Ob.head S a
 obj:∀a,Mk.obj S' a↔Sp.has m3 a=true
 get:∀a,Sp.has m3 a=true→∀{j:Int} {hd:Hd},Ob.head S a=some hd→0≤j→j<hd.n→(j≠2∨(a∉pu∧a∉rows.flatten))→Ob.get S' a j=if a∈cl∧j=0 then(0,0)else if a∈pu∧j=1 then(-1,0)else Ob.get S a j
 len:rows'.length=rows.length
 row:∀j,j<rows.length→rows'.getD j []=rows.getD j []++pu.filter fun a=>qf a==(j:Int)
theorem MD{S:aJ}{cs:List aX}(hw:aY S cs){rows:List (List Int)}(H:QI S rows){x:pS}{ros fs:List Int}{l:List da}{m2 m3:List Bool}(hC:kl S cs x ros fs l m2 m3)(qf:Int→Int){cl pu:List Int}(hcl:aU S m2 m3 l=cl)(hpu:bV S m3 cl=pu)(hq:∀a∈pu,(Ob.get S a 1).1=qf a+1∧qf a<rows.length)(hn:cl.Nodup):
  MA S (Sw.fo (Rf.cc (Rf.clear S cl).2 rows pu).1 (Mk.all m3)) rows (Rf.cc (Rf.clear S cl).2 rows pu).2 cl pu m3 qf:=by
 have hclr:∀a∈cl,Qu.bR S a=true:=fun a ha=>by
  rw[←hcl]at ha;have:∃r∈l,r.1=a:=by
   rcases List.mem_append.mp ha with h|h;·obtain⟨r,hr,e,_⟩:=kj.mp h;exact⟨r,hr,e⟩
   ·obtain⟨r,hr,e,_⟩:=kj.mp h;exact⟨r,hr,e⟩
  obtain⟨r,hr,e⟩:=this;obtain⟨h,hh,hk,_⟩:=(eY hw).mp (hC.perm.mem_iff.mp hr);rw[e]at hh;unfold Qu.bR;rw[hh];simpa using hk
 have hpc:∀a∈pu,a∈cl∧(Ob.get S a 1).1>0:=fun a ha=>by rw[←hpu]at ha;unfold bV at ha;grind
 have hpn:pu.Nodup:=by rw[←hpu];unfold bV;grind
 have eC:(Rf.clear S cl).2=Rf.iu S cl:=by unfold Rf.clear;grind
 rw[eC];have hw1:aY (Rf.iu S cl) cs:=aY.iu hw;have H1:=H.iu hw cl;have g0:∀{b j:Int} {hd:Hd},Ob.head S b=some hd→0≤j→j<hd.n→Ob.get _ b j=if b∈cl∧j=0 then _ else Ob.get S b j:=fun hb j0 j1=>Jp cl hw hb j0 j1;have hh1:=oL cl hw;generalize Rf.iu S cl=S1 at*;have hR1:∀b,Qu.bR S1 b=Qu.bR S b:=fun b=>by unfold Qu.bR;rw[hh1]
 obtain⟨i1,i2,i3⟩:=IP qf pu hw1 H1 hpn fun a ha=>by obtain⟨c1,c2⟩:=hpc a ha;obtain⟨hd,hh,hk⟩:=bx (hclr a c1);have hn5:=jm hw hh hk;obtain⟨q1,q2⟩:=hq a ha;refine⟨by grind,?_,ae,q2⟩;simp_all
 have hh2:=rm pu (rows:=rows) hw1;obtain⟨_,hw2,_⟩:=QI.cc pu hw1 H1;generalize(Rf.cc S1 rows pu).1=S2 at*;have L:=Sw.nN hw2 (Mk.all m3);generalize Sw.fo S2 (Mk.all m3)=S3 at*;have hl3:∀b,Sp.has m3 b=true→Ob.head S3 b=Ob.head S b:=fun b hb=>by rw[L.head,if_neg,hh2,hh1];intro g;unfold Sw.dead at g;rw[List.mem_filter,decide_eq_true_iff]at g;exact g.2 (Mk.ko.mpr hb)
 refine⟨hl3,fun a=>?_,fun a ha {j hd} hh j0 j1 j2=>?_,i1,i2⟩
 ·constructor
  ·intro h;unfold Mk.obj at h;rw[L.head]at h;split at h;·cases h
   ·rename_i g;have ho:a∈Sp.each S2:=by
     cases e:Ob.head S2 a with
     |none=>rw[e]at h;cases h
     |some hd=>exact(fp hw2).mpr ⟨hd,e⟩
    cases e:Sp.has m3 a with
    |true=>rfl
    |false=>refine absurd ?_ g;unfold Sw.dead;rw[List.mem_filter,decide_eq_true_iff];exact⟨ho,fun h=>by rw[Mk.ko,e]at h;cases h⟩
  ·intro h;unfold Mk.obj;rw[hl3 a h];exact hC.c3.obj a h
 ·have hh3:Ob.head S3 a=some hd:=by rw[hl3 a ha];exact hh
  have hh1':Ob.head S1 a=some hd:=by rw[hh1];exact hh
  have hh2':Ob.head S2 a=some hd:=by rw[hh2];exact hh1'
  rw[Ob.eb hh3 j0 j1,L.ws,←Ob.eb hh2' j0 j1,i3 hh1' j0 j1 j2,g0 hh j0 j1];grind
theorem HQ{S:aJ}{cs:List aX}(hw:aY S cs):(refsOf S).map (·.1)=(Sp.each S).filter (Qu.bR S):=by
 unfold refsOf Ob.eR;have:∀l:List Int,(∀a∈l,a∈Sp.each S)→((l.map (Ob.jh S)).filterMap eM).map (·.1)=l.filter (Qu.bR S):=fun l=>by
  induction l with
  |nil=>intro _;rfl
  |cons a l ih=>
   intro h;have ih:=ih fun b hb=>h b (.tail _ hb);obtain⟨hd,hh⟩:=(fp hw).mp (h a (.head _));rw[List.map_cons];by_cases hk:hd.k=4
   ·have hr:Qu.bR S a=true:=by unfold Qu.bR;rw[hh];simpa using hk
    rw[List.filterMap_cons,xL hw hh hk,List.filter_cons_of_pos hr];show a::_=_;rw[ih]
   ·have hr:¬Qu.bR S a=true:=by unfold Qu.bR;rw[hh];simpa using hk
    have e:eM (Ob.jh S a)=none:=by unfold eM Ob.jh;grind
    grind
 grind
theorem sC{S:aJ}{cs:List aX}(hw:aY S cs){m:List Bool}{xs:List Int}{l:List da}(hp:l.Perm (refsOf S)):(cy S m xs l).Nodup:=by
 unfold cy;have h1:(l.map (·.1)).Nodup:=by rw[(hp.map _).nodup_iff,HQ hw];exact(np hw.wf).sublist List.filter_sublist
 grind
theorem qk{S:aJ}{cs:List aX}(hw:aY S cs){m:List Bool}{xs:List Int}{l:List da}(hp:l.Perm (refsOf S)){a:Int}:a∈cy S m xs l↔∃h,Ob.head S a=some h∧h.k=4∧h.c∈xs∧Mk.obj S (Ob.get S a 0).1∧¬Sp.has m (Ob.get S a 0).1=true:=by
 rw[kj];constructor;·rintro⟨r,hr,rfl,h1,h2⟩;obtain⟨h,hh,hk,e⟩:=(eY hw).mp (hp.mem_iff.mp hr);rw[vh,e]at h2;rw[e]at h1;exact⟨h,hh,hk,h1,h2⟩
 ·rintro⟨h,hh,hk,h1,h2⟩;exact⟨KU S h a,hp.mem_iff.mpr ((eY hw).mpr ⟨h,hh,hk,rfl⟩),rfl,h1,vh.mpr h2⟩
end
section
open Go Go.Gl
set_option maxRecDepth 100000
def F.rt.gB(p0:LTs [kI,kI,kI]):Tree:=nw 23 [i64 p0.1,i64 p0.2.1,i64 p0.2.2.1] fun b1=>dG [kI,kI,kI] (aB b1) fun x2=>cN 37 [.agg #[i64 x2.1,i64 x2.2.1,i64 x2.2.2.1]] [.l .ptr,.l kI] fun r3=>br ((r3.2.1:Int) != 0) (ret (.tuple #[pV none,i64 r3.2.1])) (nw 50 [pV r3.1] fun b4=>ret (.tuple #[pV (some (aB b4)),i64 0]))
theorem F.rt.gB.calls(p0:LTs [kI,kI,kI]):Cf 11 [.agg #[i64 p0.1,i64 p0.2.1,i64 p0.2.2.1]] (F.rt.gB p0):=Tryz.cd az.z Tryz.func11
def F.rt.Runtime.Do.T:az:=⟨fun _=>[],fun _=>none,(fun|3=> .held (some 4) (gF [0,2,3,1] (.go 4 true (gF [5,6,7,8,9] .nil)))|_=> .quiet)⟩
def F.rt.Runtime.Do(p0:OA)(p1:LTs [kI,kI,kI,kI]):Tree:=nw 39 [i64 p1.1,i64 p1.2.1,i64 p1.2.2.1,i64 p1.2.2.2.1] fun b1=>nw 36 (zc Zp 36) fun b2=>br (Option.isNone p0) (st (aB b2) [i64 2,i64 0]<|dG [kI,kI] (aB b2) fun x3=>ret (.agg #[i64 x3.1,i64 x3.2.1])) (cD<|Gl.held fun S3=>eI S3 (fa (aB b1) 0) fun x4=>call Zp 41 [pV p0] (.one (.l .map)) fun(r5:Option Nat)=>aZ S3<|cM Zp (Instr.lookup 96 (.map r5) (i64 x4) true) (.many [.l .any,.l .bool]) fun(r6:KTs _)=>br (!r6.2.1) (st (aB b2) [i64 1,i64 0]<|dG [kI,kI] (aB b2) fun x7=>ret (.agg #[i64 x7.1,i64 x7.2.1])) (dG [kI,kI,kI,kI] (aB b1) fun x7=>lu Zp r6.1 [.agg #[i64 x7.1,i64 x7.2.1,i64 x7.2.2.1,i64 x7.2.2.2.1]] (.many [.l kI,.l kI]) fun(r8:KTs _)=>br ((r8.2.1:Int) != 0) (st (aB b2) [i64 r8.2.1,i64 0]<|dG [kI,kI] (aB b2) fun x9=>ret (.agg #[i64 x9.1,i64 x9.2.1])) (st (aB b2) [i64 0,i64 r8.1]<|dG [kI,kI] (aB b2) fun x9=>ret (.agg #[i64 x9.1,i64 x9.2.1]))))
theorem F.rt.Runtime.Do.calls(p0:OA)(p1:LTs [kI,kI,kI,kI]):Cf 17 [pV p0,.agg #[i64 p1.1,i64 p1.2.1,i64 p1.2.2.1,i64 p1.2.2.2.1]] (F.rt.Runtime.Do p0 p1):=Tryz.cd F.rt.Runtime.Do.T Tryz.func17
def F.run.Ea.T:az:=⟨(fun|5=>[(4,.slice),(21,kI)]|_=>[]),fun _=>none,fun _=> .quiet⟩
def F.fair.Round.T:az:=⟨(fun|8=>[(4,.slice),(24,kI)]|_=>[]),fun _=>none,fun _=> .quiet⟩
def F.rt.Runtime.handlers(p0:OA):Tree:=KH fun b1=>kg Zp (Instr.mapUpdate 96 (.map (some b1)) (i64 1) (.func (.func 101) #[pV p0] #[]))<|kg Zp (Instr.mapUpdate 96 (.map (some b1)) (i64 2) (.func (.func 102) #[pV p0] #[]))<|call Zp 103 [pV p0,i64 2] (.one (.l .any)) fun(r2:Value)=>kg Zp (Instr.mapUpdate 96 (.map (some b1)) (i64 3) (r2))<|call Zp 103 [pV p0,i64 3] (.one (.l .any)) fun(r3:Value)=>kg Zp (Instr.mapUpdate 96 (.map (some b1)) (i64 4) (r3))<|kg Zp (Instr.mapUpdate 96 (.map (some b1)) (i64 5) (.func (.func 104) #[pV p0] #[]))<|kg Zp (Instr.mapUpdate 96 (.map (some b1)) (i64 6) (.func (.func 105) #[pV p0] #[]))<|kg Zp (Instr.mapUpdate 96 (.map (some b1)) (i64 7) (.func (.func 106) #[pV p0] #[]))<|kg Zp (Instr.mapUpdate 96 (.map (some b1)) (i64 8) (.func (.func 107) #[pV p0] #[]))<|kg Zp (Instr.mapUpdate 96 (.map (some b1)) (i64 9) (.func (.func 108) #[pV p0] #[]))<|kg Zp (Instr.mapUpdate 96 (.map (some b1)) (i64 10) (.func (.func 109) #[pV p0] #[]))<|kg Zp (Instr.mapUpdate 96 (.map (some b1)) (i64 11) (.func (.func 110) #[pV p0] #[]))<|kg Zp (Instr.mapUpdate 96 (.map (some b1)) (i64 12) (.func (.func 111) #[pV p0] #[]))<|kg Zp (Instr.mapUpdate 96 (.map (some b1)) (i64 13) (.func (.func 112) #[pV p0] #[]))<|kg Zp (Instr.mapUpdate 96 (.map (some b1)) (i64 14) (.func (.func 113) #[pV p0] #[]))<|kg Zp (Instr.mapUpdate 96 (.map (some b1)) (i64 15) (.func (.func 114) #[pV p0] #[]))<|kg Zp (Instr.mapUpdate 96 (.map (some b1)) (i64 16) (.func (.func 115) #[pV p0] #[]))<|kg Zp (Instr.mapUpdate 96 (.map (some b1)) (i64 17) (.func (.func 116) #[pV p0] #[]))<|kg Zp (Instr.mapUpdate 96 (.map (some b1)) (i64 18) (.func (.func 117) #[pV p0] #[]))<|kg Zp (Instr.mapUpdate 96 (.map (some b1)) (i64 19) (.func (.func 118) #[pV p0] #[]))<|kg Zp (Instr.mapUpdate 96 (.map (some b1)) (i64 20) (.func (.func 119) #[pV p0] #[]))<|kg Zp (Instr.mapUpdate 96 (.map (some b1)) (i64 21) (.func (.func 120) #[pV p0] #[]))<|ret (.map (some b1))
theorem F.rt.Runtime.handlers.calls(p0:OA):Cf 41 [pV p0] (F.rt.Runtime.handlers p0):=Tryz.cd az.z Tryz.func41
def F.fair.round.finish.T:az:=⟨(fun|1=>[]|_=>[]),fun _=>none,fun _=> .quiet⟩
def F.fair.round.polled.T:az:=⟨(fun|2=>[(5,.slice)]|_=>[]),fun _=>none,fun _=> .quiet⟩
def F.rt.Runtime.class.T:az:=⟨(fun|5=>[(6,.slice),(16,kI)]|_=>[]),fun _=>none,(fun|10=> .held (some 19) (gF [0,1,2,3,4,5,6,7,8,9,10,11,12,13,14,15,16,17,18] (.go 19 true (gF [20,21,22,23] .nil)))|_=> .quiet)⟩
def F.rt.Runtime.class(p0:OA)(p1:LTs [kI,kI,kI,kI]):Tree:=nw 39 [i64 p1.1,i64 p1.2.1,i64 p1.2.2.1,i64 p1.2.2.2.1] fun b1=>dI (fa (aB b1) 2) fun x2=>br (decide ((x2:Int)<0)) (ret (.tuple #[i64 0,i64 1])) (dI (fa (aB b1) 2) fun x3=>br (decide ((x3:Int)≥4294967296)) (ret (.tuple #[i64 0,i64 1])) (lp [.slice,kI] (fun X4 u5=>br (decide ((u5.2.1:Int)<32)) (dI (fa (aB b1) 2) fun x6=>dE ((0:Int)≤u5.2.1)<|br ((jk .and .i64 (Int.fdiv x6 (2^(min (u5.2.1:Int).toNat (IntKind.bits .i64)))) 1:Int)==1) (nw 3 [i64 u5.2.1] fun b7=>ap 43 (sV u5.1) (.slice (some ⟨b7,0,none⟩) 1 1) fun r8=>X4 (r8,IntKind.wrap .i64 (u5.2.1+1),())) (X4 (u5.1,IntKind.wrap .i64 (u5.2.1+1),()))) (cD<|Gl.held fun S6=>nn p0 fun a7=>eP S6 (fa a7 0) fun x8=>nn x8 fun a9=>eP S6 (fa a9 0) fun x10=>nn x10 fun a11=>eP S6 (fa a11 0) fun x12=>nn x12 fun a13=>eP S6 (fa a13 0) fun x14=>nn x14 fun a15=>eP S6 (fa a15 1) fun x16=>eI S6 (fa (aB b1) 1) fun x17=>cN 158 [pV x16,i64 x17,sV u5.1] [.l kI,.l kI] fun r18=>ret (.tuple #[i64 r18.1,i64 r18.2.1]))) (⟨none,0,0⟩,0,())))
theorem F.rt.Runtime.class.calls(p0:OA)(p1:LTs [kI,kI,kI,kI]):Cf 101 [pV p0,.agg #[i64 p1.1,i64 p1.2.1,i64 p1.2.2.1,i64 p1.2.2.2.1]] (F.rt.Runtime.class p0 p1):=Tryz.cd F.rt.Runtime.class.T Tryz.func101
def F.rt.Runtime.plain.T:az:=⟨fun _=>[],fun _=>none,(fun|1=> .held (some 18) (gF [0,1,2,3,4,5,6,7,8,9,10,11,12,13,14,15,16,17] (.two (.go 18 true (gF [19,20,21,22,23,24] .nil)) (gF [22] (.go 18 true (gF [19,20,21,23,24] .nil)))))|_=> .quiet)⟩
def F.rt.Runtime.plain(p0:OA)(p1:LTs [kI,kI,kI,kI]):Tree:=nw 39 [i64 p1.1,i64 p1.2.1,i64 p1.2.2.1,i64 p1.2.2.2.1] fun b1=>cD<|Gl.held fun S2=>nn p0 fun a3=>eP S2 (fa a3 0) fun x4=>nn x4 fun a5=>eP S2 (fa a5 0) fun x6=>nn x6 fun a7=>eP S2 (fa a7 0) fun x8=>nn x8 fun a9=>eP S2 (fa a9 0) fun x10=>nn x10 fun a11=>eP S2 (fa a11 1) fun x12=>eI S2 (fa (aB b1) 1) fun x13=>both (cN 159 [pV x12,i64 x13] [.g [kI,.slice],.l kI] fun r14=>nw 109 (zc Zp 109) fun b15=>st (aB b15) [i64 r14.1.1,sV r14.1.2.1]<|br ((r14.2.1:Int) != 0) (ret (.tuple #[i64 0,i64 2])) (dI (fa (aB b1) 1) fun x16=>dI (fa (aB b15) 0) fun x17=>cN 160 [pV p0,.agg #[i64 1,i64 x16,i64 x17,.bool false]] [.l kI,.l kI] fun r18=>ret (.tuple #[i64 r18.1,i64 r18.2.1]))) (nw 109 (zc Zp 109) fun b19=>aZ S2<|cN 159 [pV x12,i64 x13] [.g [kI,.slice],.l kI] fun r20=>st (aB b19) [i64 r20.1.1,sV r20.1.2.1]<|br ((r20.2.1:Int) != 0) (ret (.tuple #[i64 0,i64 2])) (dI (fa (aB b1) 1) fun x21=>dI (fa (aB b19) 0) fun x22=>cN 160 [pV p0,.agg #[i64 1,i64 x21,i64 x22,.bool false]] [.l kI,.l kI] fun r23=>ret (.tuple #[i64 r23.1,i64 r23.2.1])))
theorem F.rt.Runtime.plain.calls(p0:OA)(p1:LTs [kI,kI,kI,kI]):Cf 102 [pV p0,.agg #[i64 p1.1,i64 p1.2.1,i64 p1.2.2.1,i64 p1.2.2.2.1]] (F.rt.Runtime.plain p0 p1):=Tryz.cd F.rt.Runtime.plain.T Tryz.func102
def F.rt.Runtime.list(p0:OA)(p1:Int):Tree:=nw 25 [pV p0] fun b1=>nw 3 [i64 p1] fun b2=>ret (.func (.func 161) #[] #[pV (some (aB b1)),pV (some (aB b2))])
theorem F.rt.Runtime.list.calls(p0:OA)(p1:Int):Cf 103 [pV p0,i64 p1] (F.rt.Runtime.list p0 p1):=Tryz.cd az.z Tryz.func103
def F.rt.Runtime.get(p0:OA)(p1:LTs [kI,kI,kI,kI]):Tree:=nw 39 [i64 p1.1,i64 p1.2.1,i64 p1.2.2.1,i64 p1.2.2.2.1] fun b1=>dI (fa (aB b1) 1) fun x2=>cN 162 [pV p0,i64 x2,.bool false] [.l kI,.l kI] fun r3=>br ((r3.2.1:Int) != 0) (ret (.tuple #[i64 0,i64 r3.2.1])) (dI (fa (aB b1) 2) fun x4=>cN 163 [pV p0,i64 r3.1,i64 x4] [.l kI,.l .bool,.l kI] fun r5=>br ((r5.2.2.1:Int) != 0) (ret (.tuple #[i64 r5.1,i64 r5.2.2.1])) (br (!r5.2.1) (ret (.tuple #[i64 r5.1,i64 r5.2.2.1])) (cN 164 [pV p0,i64 r5.1] [.l kI,.l kI] fun r6=>ret (.tuple #[i64 r6.1,i64 r6.2.1]))))
theorem F.rt.Runtime.get.calls(p0:OA)(p1:LTs [kI,kI,kI,kI]):Cf 104 [pV p0,.agg #[i64 p1.1,i64 p1.2.1,i64 p1.2.2.1,i64 p1.2.2.2.1]] (F.rt.Runtime.get p0 p1):=Tryz.cd az.z Tryz.func104
def F.rt.Runtime.set.T:az:=⟨fun _=>[],fun _=>none,(fun|12=> .tail 17 |_=> .quiet)⟩
def F.rt.Runtime.set(p0:OA)(p1:LTs [kI,kI,kI,kI]):Tree:=nw 39 [i64 p1.1,i64 p1.2.1,i64 p1.2.2.1,i64 p1.2.2.2.1] fun b1=>dI (fa (aB b1) 1) fun x2=>cN 162 [pV p0,i64 x2,.bool false] [.l kI,.l kI] fun r3=>br ((r3.2.1:Int) != 0) (ret (.tuple #[i64 0,i64 r3.2.1])) (dI (fa (aB b1) 3) fun x4=>cN 162 [pV p0,i64 x4,.bool true] [.l kI,.l kI] fun r5=>br ((r5.2.1:Int) != 0) (ret (.tuple #[i64 0,i64 r5.2.1])) (dI (fa (aB b1) 2) fun x6=>cN 163 [pV p0,i64 r3.1,i64 x6] [.l kI,.l .bool,.l kI] fun r7=>br ((r7.2.2.1:Int) != 0) (ret (.tuple #[i64 0,i64 r7.2.2.1])) (br (!r7.2.1) (ret (.tuple #[i64 0,i64 5])) (cD<|nn p0 fun a8=>dP (fa a8 0) fun x9=>nn x9 fun a10=>dP (fa a10 0) fun x11=>nn x11 fun a12=>dP (fa a12 0) fun x13=>nn x13 fun a14=>dP (fa a14 0) fun x15=>dI (fa (aB b1) 2) fun x16=>cI 165 [pV x15,i64 r3.1,i64 x16,i64 r5.1] fun r17=>ret (.tuple #[i64 0,i64 r17])))))
theorem F.rt.Runtime.set.calls(p0:OA)(p1:LTs [kI,kI,kI,kI]):Cf 105 [pV p0,.agg #[i64 p1.1,i64 p1.2.1,i64 p1.2.2.1,i64 p1.2.2.2.1]] (F.rt.Runtime.set p0 p1):=Tryz.cd F.rt.Runtime.set.T Tryz.func105
def F.rt.Runtime.put.T:az:=⟨fun _=>[],fun _=>none,(fun|9=> .tail 18 |_=> .quiet)⟩
def F.rt.Runtime.put(p0:OA)(p1:LTs [kI,kI,kI,kI]):Tree:=nw 39 [i64 p1.1,i64 p1.2.1,i64 p1.2.2.1,i64 p1.2.2.2.1] fun b1=>dI (fa (aB b1) 1) fun x2=>cN 162 [pV p0,i64 x2,.bool false] [.l kI,.l kI] fun r3=>br ((r3.2.1:Int) != 0) (ret (.tuple #[i64 0,i64 r3.2.1])) (dI (fa (aB b1) 2) fun x4=>cN 163 [pV p0,i64 r3.1,i64 x4] [.l kI,.l .bool,.l kI] fun r5=>br ((r5.2.2.1:Int) != 0) (ret (.tuple #[i64 0,i64 r5.2.2.1])) (br r5.2.1 (ret (.tuple #[i64 0,i64 5])) (cD<|nn p0 fun a6=>dP (fa a6 0) fun x7=>nn x7 fun a8=>dP (fa a8 0) fun x9=>nn x9 fun a10=>dP (fa a10 0) fun x11=>nn x11 fun a12=>dP (fa a12 0) fun x13=>dI (fa (aB b1) 2) fun x14=>dI (fa (aB b1) 3) fun x15=>cI 165 [pV x13,i64 r3.1,i64 x14,i64 x15] fun r16=>ret (.tuple #[i64 0,i64 r16]))))
theorem F.rt.Runtime.put.calls(p0:OA)(p1:LTs [kI,kI,kI,kI]):Cf 106 [pV p0,.agg #[i64 p1.1,i64 p1.2.1,i64 p1.2.2.1,i64 p1.2.2.2.1]] (F.rt.Runtime.put p0 p1):=Tryz.cd F.rt.Runtime.put.T Tryz.func106
def F.rt.Runtime.drop.T:az:=⟨fun _=>[],fun _=>none,(fun|1=> .tail 9 |_=> .quiet)⟩
def F.rt.Runtime.drop(p0:OA)(p1:LTs [kI,kI,kI,kI]):Tree:=nw 39 [i64 p1.1,i64 p1.2.1,i64 p1.2.2.1,i64 p1.2.2.2.1] fun b1=>cD<|nn p0 fun a2=>dP (fa a2 0) fun x3=>nn x3 fun a4=>dP (fa a4 1) fun x5=>dI (fa (aB b1) 1) fun x6=>cI 166 [pV x5,i64 x6] fun r7=>ret (.tuple #[i64 0,i64 r7])
theorem F.rt.Runtime.drop.calls(p0:OA)(p1:LTs [kI,kI,kI,kI]):Cf 107 [pV p0,.agg #[i64 p1.1,i64 p1.2.1,i64 p1.2.2.1,i64 p1.2.2.2.1]] (F.rt.Runtime.drop p0 p1):=Tryz.cd F.rt.Runtime.drop.T Tryz.func107
def F.rt.Runtime.root.T:az:=⟨fun _=>[],fun _=>none,(fun|4=> .tail 10 |_=> .quiet)⟩
def F.rt.Runtime.root(p0:OA)(p1:LTs [kI,kI,kI,kI]):Tree:=nw 39 [i64 p1.1,i64 p1.2.1,i64 p1.2.2.1,i64 p1.2.2.2.1] fun b1=>dI (fa (aB b1) 2) fun x2=>cN 162 [pV p0,i64 x2,.bool true] [.l kI,.l kI] fun r3=>br ((r3.2.1:Int) != 0) (ret (.tuple #[i64 0,i64 r3.2.1])) (cD<|nn p0 fun a4=>dP (fa a4 0) fun x5=>nn x5 fun a6=>dP (fa a6 2) fun x7=>dI (fa (aB b1) 1) fun x8=>cI 167 [pV x7,i64 x8,i64 r3.1] fun r9=>ret (.tuple #[i64 0,i64 r9]))
theorem F.rt.Runtime.root.calls(p0:OA)(p1:LTs [kI,kI,kI,kI]):Cf 108 [pV p0,.agg #[i64 p1.1,i64 p1.2.1,i64 p1.2.2.1,i64 p1.2.2.2.1]] (F.rt.Runtime.root p0 p1):=Tryz.cd F.rt.Runtime.root.T Tryz.func108
def F.rt.Runtime.take.T:az:=⟨fun _=>[],fun _=>none,(fun|1=> .held (some 9) (gF [0,1,2,3,4,5,6,7,8] (.go 9 true (gF [10,11,12,13,14] .nil)))|_=> .quiet)⟩
def F.rt.Runtime.take(p0:OA)(p1:LTs [kI,kI,kI,kI]):Tree:=nw 39 [i64 p1.1,i64 p1.2.1,i64 p1.2.2.1,i64 p1.2.2.2.1] fun b1=>cD<|Gl.held fun S2=>nn p0 fun a3=>eP S2 (fa a3 0) fun x4=>nn x4 fun a5=>eP S2 (fa a5 2) fun x6=>eI S2 (fa (aB b1) 1) fun x7=>cN 168 [pV x6,i64 x7] [.l kI,.l kI] fun r8=>br ((r8.2.1:Int) != 0) (ret (.tuple #[i64 0,i64 r8.2.1])) (cN 164 [pV p0,i64 r8.1] [.l kI,.l kI] fun r9=>ret (.tuple #[i64 r9.1,i64 r9.2.1]))
theorem F.rt.Runtime.take.calls(p0:OA)(p1:LTs [kI,kI,kI,kI]):Cf 109 [pV p0,.agg #[i64 p1.1,i64 p1.2.1,i64 p1.2.2.1,i64 p1.2.2.2.1]] (F.rt.Runtime.take p0 p1):=Tryz.cd F.rt.Runtime.take.T Tryz.func109
def F.rt.Runtime.bS(p0:OA)(p1:LTs [kI,kI,kI,kI]):Tree:=nw 25 [pV p0] fun b1=>nw 39 [i64 p1.1,i64 p1.2.1,i64 p1.2.2.1,i64 p1.2.2.2.1] fun b2=>dP (aB b1) fun x3=>dI (fa (aB b2) 2) fun x4=>cN 162 [pV x3,i64 x4,.bool false] [.l kI,.l kI] fun r5=>nw 3 (zc Zp 3) fun b6=>st (aB b6) [i64 r5.1]<|br ((r5.2.1:Int) != 0) (ret (.tuple #[i64 0,i64 r5.2.1])) (dP (aB b1) fun x7=>dG [kI,kI,kI,kI] (aB b2) fun x8=>cI 169 [pV x7,.agg #[i64 x8.1,i64 x8.2.1,i64 x8.2.2.1,i64 x8.2.2.2.1]] fun r9=>br ((r9:Int) != 0) (ret (.tuple #[i64 0,i64 r9])) (dP (aB b1) fun x10=>cN 170 [pV x10,.func (.func 171) #[] #[pV (some (aB b1)),pV (some (aB b2)),pV (some (aB b6))]] [.l kI,.l kI] fun r11=>ret (.tuple #[i64 r11.1,i64 r11.2.1])))
theorem F.rt.Runtime.bS.calls(p0:OA)(p1:LTs [kI,kI,kI,kI]):Cf 110 [pV p0,.agg #[i64 p1.1,i64 p1.2.1,i64 p1.2.2.1,i64 p1.2.2.2.1]] (F.rt.Runtime.bS p0 p1):=Tryz.cd az.z Tryz.func110
def F.rt.Runtime.aC.T:az:=⟨fun _=>[],fun _=>none,(fun|14=> .held (some 13) (gF [0,1,2,3,4,5,6,7,8,9,10,11,12] (.go 13 true (gF [14,15,16,17,18] .nil)))|_=> .quiet)⟩
def F.rt.Runtime.aC(p0:OA)(p1:LTs [kI,kI,kI,kI]):Tree:=nw 39 [i64 p1.1,i64 p1.2.1,i64 p1.2.2.1,i64 p1.2.2.2.1] fun b1=>dI (fa (aB b1) 1) fun x2=>cN 162 [pV p0,i64 x2,.bool false] [.l kI,.l kI] fun r3=>br ((r3.2.1:Int) != 0) (ret (.tuple #[i64 0,i64 r3.2.1])) (nn p0 fun a4=>dP (fa a4 0) fun x5=>nn x5 fun a6=>dP (fa a6 0) fun x7=>nn x7 fun a8=>dP (fa a8 0) fun x9=>nn x9 fun a10=>dP (fa a10 0) fun x11=>cN 137 [pV x11,i64 r3.1] [.g [kI,kI,kI,.bool],.l kI] fun r12=>nw 72 (zc Zp 72) fun b13=>st (aB b13) [i64 r12.1.1,i64 r12.1.2.1,i64 r12.1.2.2.1,.bool r12.1.2.2.2.1]<|br ((r12.2.1:Int) != 0) (ret (.tuple #[i64 0,i64 5])) (dI (fa (aB b13) 0) fun x14=>br ((x14:Int) != 4) (ret (.tuple #[i64 0,i64 5])) (dI (fa (aB b13) 1) fun x15=>br ((x15:Int)==3) (ret (.tuple #[i64 0,i64 0])) (nn p0 fun a16=>dP (fa a16 0) fun x17=>nn x17 fun a18=>dP (fa a18 0) fun x19=>nn x19 fun a20=>dP (fa a20 0) fun x21=>nn x21 fun a22=>dP (fa a22 0) fun x23=>cN 138 [pV x23,i64 r3.1,i64 0] [.l kI,.l kI] fun r24=>br ((r24.2.1:Int) != 0) (br ((r24.2.1:Int)==0) (br ((r24.1:Int) != 0) (ret (.tuple #[i64 0,i64 3])) (ret (.tuple #[i64 0,i64 r24.2.1]))) (ret (.tuple #[i64 0,i64 r24.2.1]))) (br ((r24.1:Int)==0) (br ((r24.2.1:Int)==0) (br ((r24.1:Int) != 0) (ret (.tuple #[i64 0,i64 3])) (ret (.tuple #[i64 0,i64 r24.2.1]))) (ret (.tuple #[i64 0,i64 r24.2.1]))) (nn p0 fun a25=>dP (fa a25 0) fun x26=>nn x26 fun a27=>dP (fa a27 1) fun x28=>cI 174 [pV x28] fun r29=>br ((r29:Int)==0) (br ((r24.2.1:Int)==0) (br ((r24.1:Int) != 0) (ret (.tuple #[i64 0,i64 3])) (ret (.tuple #[i64 0,i64 r24.2.1]))) (ret (.tuple #[i64 0,i64 r24.2.1]))) (cD<|Gl.held fun S30=>nn p0 fun a31=>eP S30 (fa a31 0) fun x32=>nn x32 fun a33=>eP S30 (fa a33 0) fun x34=>nn p0 fun a35=>eP S30 (fa a35 0) fun x36=>cI 173 [pV x36] fun r37=>aZ S30<|cN 175 [pV x34,i64 r3.1,i64 r37] [.l kI,.l kI] fun r38=>br ((r38.2.1:Int) != 0) (ret (.tuple #[i64 0,i64 r38.2.1])) (cN 164 [pV p0,i64 r38.1] [.l kI,.l kI] fun r39=>ret (.tuple #[i64 r39.1,i64 r39.2.1])))))))))
theorem F.rt.Runtime.aC.calls(p0:OA)(p1:LTs [kI,kI,kI,kI]):Cf 111 [pV p0,.agg #[i64 p1.1,i64 p1.2.1,i64 p1.2.2.1,i64 p1.2.2.2.1]] (F.rt.Runtime.aC p0 p1):=Tryz.cd F.rt.Runtime.aC.T Tryz.func111
def F.rt.Runtime.clear(p0:OA)(p1:LTs [kI,kI,kI,kI]):Tree:=nw 39 [i64 p1.1,i64 p1.2.1,i64 p1.2.2.1,i64 p1.2.2.2.1] fun b1=>dI (fa (aB b1) 1) fun x2=>cN 162 [pV p0,i64 x2,.bool false] [.l kI,.l kI] fun r3=>br ((r3.2.1:Int) != 0) (ret (.tuple #[i64 0,i64 r3.2.1])) (nn p0 fun a4=>dP (fa a4 0) fun x5=>nn x5 fun a6=>dP (fa a6 0) fun x7=>nw 3 [i64 r3.1] fun b8=>cI 149 [pV x7,.slice (some ⟨b8,0,none⟩) 1 1] fun r9=>ret (.tuple #[i64 0,i64 r9]))
theorem F.rt.Runtime.clear.calls(p0:OA)(p1:LTs [kI,kI,kI,kI]):Cf 112 [pV p0,.agg #[i64 p1.1,i64 p1.2.1,i64 p1.2.2.1,i64 p1.2.2.2.1]] (F.rt.Runtime.clear p0 p1):=Tryz.cd az.z Tryz.func112
def F.rt.Runtime.enqueue(p0:OA)(p1:LTs [kI,kI,kI,kI]):Tree:=nw 39 [i64 p1.1,i64 p1.2.1,i64 p1.2.2.1,i64 p1.2.2.2.1] fun b1=>dI (fa (aB b1) 1) fun x2=>cN 162 [pV p0,i64 x2,.bool false] [.l kI,.l kI] fun r3=>br ((r3.2.1:Int) != 0) (ret (.tuple #[i64 0,i64 r3.2.1])) (nn p0 fun a4=>dP (fa a4 0) fun x5=>nn x5 fun a6=>dP (fa a6 0) fun x7=>cN 150 [pV x7,i64 r3.1] [.l .bool,.l kI] fun r8=>br ((r8.2.1:Int) != 0) (ret (.tuple #[i64 0,i64 r8.2.1])) (br (!r8.1) (ret (.tuple #[i64 0,i64 r8.2.1])) (ret (.tuple #[i64 1,i64 0]))))
theorem F.rt.Runtime.enqueue.calls(p0:OA)(p1:LTs [kI,kI,kI,kI]):Cf 113 [pV p0,.agg #[i64 p1.1,i64 p1.2.1,i64 p1.2.2.1,i64 p1.2.2.2.1]] (F.rt.Runtime.enqueue p0 p1):=Tryz.cd az.z Tryz.func113
def F.rt.Runtime.open(p0:OA)(p1:LTs [kI,kI,kI,kI]):Tree:=nw 39 [i64 p1.1,i64 p1.2.1,i64 p1.2.2.1,i64 p1.2.2.2.1] fun b1=>nn p0 fun a2=>dP (fa a2 0) fun x3=>nn x3 fun a4=>dP (fa a4 0) fun x5=>nn x5 fun a6=>dP (fa a6 0) fun x7=>cN 176 [pV x7] [.l kI,.l kI] fun r8=>ret (.tuple #[i64 r8.1,i64 r8.2.1])
theorem F.rt.Runtime.open.calls(p0:OA)(p1:LTs [kI,kI,kI,kI]):Cf 114 [pV p0,.agg #[i64 p1.1,i64 p1.2.1,i64 p1.2.2.1,i64 p1.2.2.2.1]] (F.rt.Runtime.open p0 p1):=Tryz.cd az.z Tryz.func114
def F.rt.Runtime.jl.T:az:=⟨fun _=>[],fun _=>none,(fun|1=> .held (some 12) (gF [0,1,2,3,4,5,6,7,8,9,10,11] (.go 12 true (gF [13,14,15,16,17] .nil)))|8=> .held (some 12) (gF [0,1,2,3,4,5,6,7,8,9,10,11] (.go 12 true (gF [13,14,15,16,17] .nil)))|_=> .quiet)⟩
def F.rt.Runtime.jl(p0:OA)(p1:LTs [kI,kI,kI,kI]):Tree:=nw 39 [i64 p1.1,i64 p1.2.1,i64 p1.2.2.1,i64 p1.2.2.2.1] fun b1=>cD<|Gl.held fun S2=>nn p0 fun a3=>eP S2 (fa a3 0) fun x4=>nn x4 fun a5=>eP S2 (fa a5 0) fun x6=>nn x6 fun a7=>eP S2 (fa a7 0) fun x8=>eI S2 (fa (aB b1) 1) fun x9=>cN 141 [pV x8,i64 x9] [.l .slice,.l kI] fun r10=>br ((r10.2.1:Int) != 0) (ret (.tuple #[i64 0,i64 r10.2.1])) (br (((r10.1.n:Nat):Int)==0) (ret (.tuple #[i64 0,i64 0])) (nn p0 fun a11=>dP (fa a11 0) fun x12=>nn x12 fun a13=>dP (fa a13 1) fun x14=>cI 174 [pV x14] fun r15=>br ((r15:Int)==0) (ret (.tuple #[i64 0,i64 3])) (cD<|Gl.held fun S16=>nn p0 fun a17=>eP S16 (fa a17 0) fun x18=>nn x18 fun a19=>eP S16 (fa a19 0) fun x20=>nn x20 fun a21=>eP S16 (fa a21 0) fun x22=>eI S16 (fa (aB b1) 1) fun x23=>cN 154 [pV x22,i64 x23] [.l kI,.l kI] fun r24=>br ((r24.2.1:Int) != 0) (ret (.tuple #[i64 0,i64 r24.2.1])) (cN 164 [pV p0,i64 r24.1] [.l kI,.l kI] fun r25=>ret (.tuple #[i64 r25.1,i64 r25.2.1])))))
theorem F.rt.Runtime.jl.calls(p0:OA)(p1:LTs [kI,kI,kI,kI]):Cf 115 [pV p0,.agg #[i64 p1.1,i64 p1.2.1,i64 p1.2.2.1,i64 p1.2.2.2.1]] (F.rt.Runtime.jl p0 p1):=Tryz.cd F.rt.Runtime.jl.T Tryz.func115
def F.rt.Runtime.final(p0:OA)(p1:LTs [kI,kI,kI,kI]):Tree:=nw 39 [i64 p1.1,i64 p1.2.1,i64 p1.2.2.1,i64 p1.2.2.2.1] fun b1=>dI (fa (aB b1) 1) fun x2=>cN 162 [pV p0,i64 x2,.bool false] [.l kI,.l kI] fun r3=>br ((r3.2.1:Int) != 0) (ret (.tuple #[i64 0,i64 r3.2.1])) (nn p0 fun a4=>dP (fa a4 0) fun x5=>nn x5 fun a6=>dP (fa a6 3) fun x7=>cI 177 [pV x7,i64 r3.1] fun r8=>ret (.tuple #[i64 0,i64 r8]))
theorem F.rt.Runtime.final.calls(p0:OA)(p1:LTs [kI,kI,kI,kI]):Cf 116 [pV p0,.agg #[i64 p1.1,i64 p1.2.1,i64 p1.2.2.1,i64 p1.2.2.2.1]] (F.rt.Runtime.final p0 p1):=Tryz.cd az.z Tryz.func116
def F.rt.Runtime.run.T:az:=⟨fun _=>[],(fun|8=>some []|_=>none),(fun|1=> .held (some 9) (gF [0,1,2,3,4,5,6,7,8] (.go 9 true (gF [10,11,12,13,14] .nil)))|2=> .held none (gF [0,1,2,3,4,5,6,7,8,9,10,11,12,13] (.cut (gF [14,15,16,17,18,19,20,21,22,23,24,25,26,27] .nil)))|8=> .held (some 9) (gF [0,1,2,3,4,5,6,7,8] (.go 9 true (gF [10,11,12,13,14] .nil)))|12=> .tail 10 |_=> .quiet)⟩
def F.rt.Runtime.run(p0:OA)(p1:LTs [kI,kI,kI,kI]):Tree:=nw 39 [i64 p1.1,i64 p1.2.1,i64 p1.2.2.1,i64 p1.2.2.2.1] fun b1=>cD<|Gl.held fun S2=>nn p0 fun a3=>eP S2 (fa a3 0) fun x4=>nn x4 fun a5=>eP S2 (fa a5 2) fun x6=>eI S2 (fa (aB b1) 3) fun x7=>cN 168 [pV x6,i64 x7] [.l kI,.l kI] fun r8=>jn (fun(j10:LTs [])=>cD<|Gl.held fun S11=>nn p0 fun a12=>eP S11 (fa a12 0) fun x13=>nn x13 fun a14=>eP S11 (fa a14 3) fun x15=>eI S11 (fa (aB b1) 1) fun x16=>cN 153 [pV x15,i64 x16] [.l kI,.l kI] fun r17=>br ((r17.2.1:Int) != 0) (ret (.tuple #[i64 0,i64 r17.2.1])) (dI (fa (aB b1) 2) fun x18=>br ((x18:Int)==1) (cD<|nn p0 fun a19=>dP (fa a19 0) fun x20=>nn x20 fun a21=>dP (fa a21 2) fun x22=>dI (fa (aB b1) 3) fun x23=>cI 167 [pV x22,i64 x23,i64 r17.1] fun r24=>ret (.tuple #[i64 0,i64 r24])) (dI (fa (aB b1) 2) fun x19=>br ((x19:Int)==2) (cN 164 [pV p0,i64 r17.1] [.l kI,.l kI] fun r20=>ret (.tuple #[i64 r20.1,i64 r20.2.1])) (ret (.tuple #[i64 0,i64 0]))))) fun J9=>cD<|Gl.held fun S20=>eI S20 (fa (aB b1) 1) fun x21=>br (decide ((x21:Int)<0)) (narrow S20 fun S22=>ret (.tuple #[i64 0,i64 1])) (eI S20 (fa (aB b1) 1) fun x22=>nn p0 fun a23=>eP S20 (fa a23 0) fun x24=>nn x24 fun a25=>eP S20 (fa a25 3) fun x26=>cS 72 [pV x26] fun r27=>aZ S20<|narrow S20 fun S28=>br (decide ((x22:Int)≥(r27.n:Nat))) (ret (.tuple #[i64 0,i64 1])) (eI S28 (fa (aB b1) 2) fun x29=>br (decide ((x29:Int)<0)) (ret (.tuple #[i64 0,i64 1])) (eI S28 (fa (aB b1) 2) fun x30=>br (decide ((x30:Int)>2)) (ret (.tuple #[i64 0,i64 1])) (dI (fa (aB b1) 2) fun x31=>br ((x31:Int)==1) (br ((r8.2.1:Int) != 0) (ret (.tuple #[i64 0,i64 1])) (dI (fa (aB b1) 2) fun x32=>br ((x32:Int)==2) (nn p0 fun a33=>dP (fa a33 0) fun x34=>nn x34 fun a35=>dP (fa a35 1) fun x36=>cI 174 [pV x36] fun r37=>br ((r37:Int)==0) (ret (.tuple #[i64 0,i64 3])) (J9 (()))) (J9 (())))) (dI (fa (aB b1) 2) fun x32=>br ((x32:Int)==2) (nn p0 fun a33=>dP (fa a33 0) fun x34=>nn x34 fun a35=>dP (fa a35 1) fun x36=>cI 174 [pV x36] fun r37=>br ((r37:Int)==0) (ret (.tuple #[i64 0,i64 3])) (J9 (()))) (J9 (())))))))
theorem F.rt.Runtime.run.calls(p0:OA)(p1:LTs [kI,kI,kI,kI]):Cf 117 [pV p0,.agg #[i64 p1.1,i64 p1.2.1,i64 p1.2.2.1,i64 p1.2.2.2.1]] (F.rt.Runtime.run p0 p1):=Tryz.cd F.rt.Runtime.run.T Tryz.func117
def F.rt.Runtime.collect.T:az:=⟨fun _=>[],(fun|3=>some []|_=>none),(fun|4=> .held (some 7) (gF [0,1,2,3,4,5,6] (.two (.go 7 true (gF [8,9,10,11,12,13] .nil)) (gF [11] (.go 7 true (gF [8,9,10,12,13] .nil)))))|_=> .quiet)⟩
def F.rt.Runtime.collect(p0:OA)(p1:LTs [kI,kI,kI,kI]):Tree:=nw 39 [i64 p1.1,i64 p1.2.1,i64 p1.2.2.1,i64 p1.2.2.2.1] fun b1=>jn (fun(j3:LTs [])=>nn p0 fun a4=>dP (fa a4 0) fun x5=>nn x5 fun a6=>dP (fa a6 0) fun x7=>nn x7 fun a8=>dP (fa a8 0) fun x9=>nn x9 fun a10=>dP (fa a10 0) fun x11=>nn x11 fun a12=>dP (fa a12 0) fun x13=>cS 136 [pV x13] fun r14=>cD<|Gl.held fun S15=>nn p0 fun a16=>eP S15 (fa a16 0) fun x17=>eI S15 (fa (aB b1) 1) fun x18=>both (cN 90 [pV x17,.bool ((x18:Int)==1)] [.g [.slice,.slice,.slice,.slice],.l kI] fun r19=>nw 120 (zc Zp 120) fun b20=>st (aB b20) [sV r19.1.1,sV r19.1.2.1,sV r19.1.2.2.1,sV r19.1.2.2.2.1]<|br ((r19.2.1:Int) != 0) (ret (.tuple #[i64 0,i64 r19.2.1])) (nn p0 fun a21=>dP (fa a21 0) fun x22=>nn x22 fun a23=>dP (fa a23 0) fun x24=>nn x24 fun a25=>dP (fa a25 0) fun x26=>nn x26 fun a27=>dP (fa a27 0) fun x28=>nn x28 fun a29=>dP (fa a29 0) fun x30=>cS 136 [pV x30] fun r31=>ret (.tuple #[i64 (IntKind.wrap .i64 ((r14.n:Nat)-(r31.n:Nat))),i64 0]))) (nw 120 (zc Zp 120) fun b32=>aZ S15<|cN 90 [pV x17,.bool ((x18:Int)==1)] [.g [.slice,.slice,.slice,.slice],.l kI] fun r33=>st (aB b32) [sV r33.1.1,sV r33.1.2.1,sV r33.1.2.2.1,sV r33.1.2.2.2.1]<|br ((r33.2.1:Int) != 0) (ret (.tuple #[i64 0,i64 r33.2.1])) (nn p0 fun a34=>dP (fa a34 0) fun x35=>nn x35 fun a36=>dP (fa a36 0) fun x37=>nn x37 fun a38=>dP (fa a38 0) fun x39=>nn x39 fun a40=>dP (fa a40 0) fun x41=>nn x41 fun a42=>dP (fa a42 0) fun x43=>cS 136 [pV x43] fun r44=>ret (.tuple #[i64 (IntKind.wrap .i64 ((r14.n:Nat)-(r44.n:Nat))),i64 0])))) fun J2=>dI (fa (aB b1) 1) fun x45=>br ((x45:Int) != 0) (dI (fa (aB b1) 1) fun x46=>br ((x46:Int) != 1) (ret (.tuple #[i64 0,i64 1])) (J2 (()))) (J2 (()))
theorem F.rt.Runtime.collect.calls(p0:OA)(p1:LTs [kI,kI,kI,kI]):Cf 118 [pV p0,.agg #[i64 p1.1,i64 p1.2.1,i64 p1.2.2.1,i64 p1.2.2.2.1]] (F.rt.Runtime.collect p0 p1):=Tryz.cd F.rt.Runtime.collect.T Tryz.func118
def F.rt.Runtime.tick.T:az:=⟨fun _=>[],fun _=>none,(fun|3=> .tail 6 |_=> .quiet)⟩
def F.rt.Runtime.tick(p0:OA)(p1:LTs [kI,kI,kI,kI]):Tree:=nw 39 [i64 p1.1,i64 p1.2.1,i64 p1.2.2.1,i64 p1.2.2.2.1] fun b1=>dI (fa (aB b1) 1) fun x2=>br (decide ((x2:Int)<0)) (ret (.tuple #[i64 0,i64 1])) (cD<|nn p0 fun a3=>dP (fa a3 0) fun x4=>dI (fa (aB b1) 1) fun x5=>cN 178 [pV x4,i64 x5] [] fun r6=>ret (.tuple #[i64 0,i64 0]))
theorem F.rt.Runtime.tick.calls(p0:OA)(p1:LTs [kI,kI,kI,kI]):Cf 119 [pV p0,.agg #[i64 p1.1,i64 p1.2.1,i64 p1.2.2.1,i64 p1.2.2.2.1]] (F.rt.Runtime.tick p0 p1):=Tryz.cd F.rt.Runtime.tick.T Tryz.func119
def F.rt.Runtime.count.T:az:=⟨fun _=>[],fun _=>none,(fun|2=> .held (some 51) (gF [0,1,2,3,4,5,6,7,8,9,10,11,12,13,14,15,16,18,20,21,22,23,24,25,26,29,30,31,32,33,34,35,36,37,38,39,40,41,42,43,44,47,48,49,50,17,19,27,28,45,46] (.go 51 true (gF [52,53] .nil)))|_=> .quiet)⟩
def F.rt.Runtime.count(p0:OA)(p1:LTs [kI,kI,kI,kI]):Tree:=nw 39 [i64 p1.1,i64 p1.2.1,i64 p1.2.2.1,i64 p1.2.2.2.1] fun b1=>nn p0 fun a2=>dP (fa a2 0) fun x3=>nn x3 fun a4=>dP (fa a4 0) fun x5=>nn x5 fun a6=>dP (fa a6 0) fun x7=>nn x7 fun a8=>dP (fa a8 0) fun x9=>nn x9 fun a10=>dP (fa a10 0) fun x11=>cI 74 [pV x11] fun r12=>cD<|Gl.held fun S13=>nn p0 fun a14=>eP S13 (fa a14 0) fun x15=>nn x15 fun a16=>eP S13 (fa a16 0) fun x17=>nn x17 fun a18=>eP S13 (fa a18 0) fun x19=>nn x19 fun a20=>eP S13 (fa a20 0) fun x21=>nn x21 fun a22=>eP S13 (fa a22 0) fun x23=>nn p0 fun a24=>eP S13 (fa a24 0) fun x25=>nn x25 fun a26=>eP S13 (fa a26 3) fun x27=>nn p0 fun a28=>eP S13 (fa a28 0) fun x29=>nn x29 fun a30=>eP S13 (fa a30 0) fun x31=>nn x31 fun a32=>eP S13 (fa a32 0) fun x33=>nn x33 fun a34=>eP S13 (fa a34 0) fun x35=>nn x35 fun a36=>eP S13 (fa a36 0) fun x37=>nn p0 fun a38=>eP S13 (fa a38 0) fun x39=>cI 179 [pV x23] fun r40=>aZ S13<|cS 72 [pV x27] fun r41=>aZ S13<|cS 136 [pV x37] fun r42=>aZ S13<|cI 79 [pV x39] fun r43=>nw 3 [i64 r12,i64 (IntKind.wrap .i64 (r40-r12)),i64 (r41.n:Nat),i64 (r42.n:Nat),i64 r43] fun b44=>dI (fa (aB b1) 1) fun x45=>br (decide ((x45:Int)<0)) (ret (.tuple #[i64 0,i64 1])) (dI (fa (aB b1) 1) fun x46=>br (decide ((x46:Int)≥(5:Nat))) (ret (.tuple #[i64 0,i64 1])) (dI (fa (aB b1) 1) fun x47=>ix (some ⟨b44,0,none⟩) 5 x47 1 fun a48=>dI a48 fun x49=>ret (.tuple #[i64 x49,i64 0])))
theorem F.rt.Runtime.count.calls(p0:OA)(p1:LTs [kI,kI,kI,kI]):Cf 120 [pV p0,.agg #[i64 p1.1,i64 p1.2.1,i64 p1.2.2.1,i64 p1.2.2.2.1]] (F.rt.Runtime.count p0 p1):=Tryz.cd F.rt.Runtime.count.T Tryz.func120
def F.rt.Runtime.object(p0:OA)(p1:LTs [kI,kI,kI,.bool]):Tree:=nw 25 [pV p0] fun b1=>nw 72 [i64 p1.1,i64 p1.2.1,i64 p1.2.2.1,.bool p1.2.2.2.1] fun b2=>dP (aB b1) fun x3=>cN 170 [pV x3,.func (.func 224) #[] #[pV (some (aB b1)),pV (some (aB b2))]] [.l kI,.l kI] fun r4=>ret (.tuple #[i64 r4.1,i64 r4.2.1])
theorem F.rt.Runtime.object.calls(p0:OA)(p1:LTs [kI,kI,kI,.bool]):Cf 160 [pV p0,.agg #[i64 p1.1,i64 p1.2.1,i64 p1.2.2.1,.bool p1.2.2.2.1]] (F.rt.Runtime.object p0 p1):=Tryz.cd az.z Tryz.func160
def F.rt.Runtime.Be(p0:LTs [kI,kI,kI,kI])(c0 c1:OA):Tree:=nw 39 [i64 p0.1,i64 p0.2.1,i64 p0.2.2.1,i64 p0.2.2.2.1] fun b1=>dI (fa (aB b1) 1) fun x2=>br (decide ((x2:Int)<0)) (ret (.tuple #[i64 0,i64 1])) (dI (fa (aB b1) 1) fun x3=>br (decide ((x3:Int)>1023)) (ret (.tuple #[i64 0,i64 1])) (nn c0 fun a4=>dP a4 fun x5=>nn c1 fun a6=>dI a6 fun x7=>dI (fa (aB b1) 1) fun x8=>cN 160 [pV x5,.agg #[i64 x7,i64 0,i64 x8,.bool false]] [.l kI,.l kI] fun r9=>ret (.tuple #[i64 r9.1,i64 r9.2.1])))
theorem F.rt.Runtime.Be.calls(p0:LTs [kI,kI,kI,kI])(c0 c1:OA):Cf 161 [.agg #[i64 p0.1,i64 p0.2.1,i64 p0.2.2.1,i64 p0.2.2.2.1],pV c0,pV c1] (F.rt.Runtime.Be p0 c0 c1):=Tryz.cd az.z Tryz.func161
def F.rt.Runtime.held(p0:OA)(p1:Int)(p2:Bool):Tree:=br p2 (br ((p1:Int)==0) (ret (.tuple #[i64 0,i64 0])) (nn p0 fun a1=>dP (fa a1 0) fun x2=>nn x2 fun a3=>dP (fa a3 1) fun x4=>cN 226 [pV x4,i64 p1] [.l kI,.l kI] fun r5=>ret (.tuple #[i64 r5.1,i64 r5.2.1]))) (nn p0 fun a1=>dP (fa a1 0) fun x2=>nn x2 fun a3=>dP (fa a3 1) fun x4=>cN 226 [pV x4,i64 p1] [.l kI,.l kI] fun r5=>ret (.tuple #[i64 r5.1,i64 r5.2.1]))
theorem F.rt.Runtime.held.calls(p0:OA)(p1:Int)(p2:Bool):Cf 162 [pV p0,i64 p1,.bool p2] (F.rt.Runtime.held p0 p1 p2):=Tryz.cd az.z Tryz.func162
def F.rt.Runtime.field(p0:OA)(p1 p2:Int):Tree:=nn p0 fun a1=>dP (fa a1 0) fun x2=>nn x2 fun a3=>dP (fa a3 0) fun x4=>nn x4 fun a5=>dP (fa a5 0) fun x6=>nn x6 fun a7=>dP (fa a7 0) fun x8=>cN 137 [pV x8,i64 p1] [.g [kI,kI,kI,.bool],.l kI] fun r9=>nw 72 (zc Zp 72) fun b10=>st (aB b10) [i64 r9.1.1,i64 r9.1.2.1,i64 r9.1.2.2.1,.bool r9.1.2.2.2.1]<|br ((r9.2.1:Int) != 0) (ret (.tuple #[i64 0,.bool false,i64 r9.2.1])) (dI (fa (aB b10) 0) fun x11=>br ((x11:Int)==4) (ret (.tuple #[i64 0,.bool false,i64 5])) (nn p0 fun a12=>dP (fa a12 0) fun x13=>nn x13 fun a14=>dP (fa a14 0) fun x15=>nn x15 fun a16=>dP (fa a16 0) fun x17=>nn x17 fun a18=>dP (fa a18 0) fun x19=>cN 138 [pV x19,i64 p1,i64 p2] [.l kI,.l kI] fun r20=>br ((r20.2.1:Int) != 0) (ret (.tuple #[i64 0,.bool false,i64 r20.2.1])) (nn p0 fun a21=>dP (fa a21 0) fun x22=>nn x22 fun a23=>dP (fa a23 0) fun x24=>nn x24 fun a25=>dP (fa a25 0) fun x26=>nn x26 fun a27=>dP (fa a27 0) fun x28=>cS 228 [pV x28,i64 p1] fun r29=>cB 227 [sV r29,i64 p2] fun r30=>ret (.tuple #[i64 r20.1,.bool r30,i64 0]))))
theorem F.rt.Runtime.field.calls(p0:OA)(p1 p2:Int):Cf 163 [pV p0,i64 p1,i64 p2] (F.rt.Runtime.field p0 p1 p2):=Tryz.cd az.z Tryz.func163
def F.rt.Runtime.given(p0:OA)(p1:Int):Tree:=br ((p1:Int)==0) (ret (.tuple #[i64 0,i64 0])) (nn p0 fun a1=>dP (fa a1 0) fun x2=>nn x2 fun a3=>dP (fa a3 1) fun x4=>cI 174 [pV x4] fun r5=>br ((r5:Int)==0) (ret (.tuple #[i64 0,i64 3])) (nn p0 fun a6=>dP (fa a6 0) fun x7=>nn x7 fun a8=>dP (fa a8 1) fun x9=>cN 229 [pV x9,i64 p1] [.l kI,.l kI] fun r10=>ret (.tuple #[i64 r10.1,i64 r10.2.1])))
theorem F.rt.Runtime.given.calls(p0:OA)(p1:Int):Cf 164 [pV p0,i64 p1] (F.rt.Runtime.given p0 p1):=Tryz.cd az.z Tryz.func164
def F.rt.Runtime.uJ.T:az:=⟨fun _=>[],fun _=>none,(fun|3=> .held none (gF [0,1,2,3,4,5,6,7,8,9,10,11,12,13,14,15,16,17,18,19] .nil)|_=> .quiet)⟩
def F.rt.Runtime.uJ(p0:OA)(p1:LTs [kI,kI,kI,kI]):Tree:=nw 39 [i64 p1.1,i64 p1.2.1,i64 p1.2.2.1,i64 p1.2.2.2.1] fun b1=>dI (fa (aB b1) 1) fun x2=>br (decide ((x2:Int)<1)) (ret (i64 1)) (dI (fa (aB b1) 1) fun x3=>br (decide ((x3:Int)>3)) (ret (i64 1)) (cD<|Gl.held fun S4=>eI S4 (fa (aB b1) 3) fun x5=>br (decide ((x5:Int)<(-1))) (ret (i64 2)) (eI S4 (fa (aB b1) 3) fun x6=>nn p0 fun a7=>eP S4 (fa a7 0) fun x8=>nn x8 fun a9=>eP S4 (fa a9 0) fun x10=>nn x10 fun a11=>eP S4 (fa a11 0) fun x12=>cI 92 [pV x12] fun r13=>aZ S4<|br (decide ((x6:Int)≥r13)) (ret (i64 2)) (dI (fa (aB b1) 1) fun x14=>br ((x14:Int)==3) (dI (fa (aB b1) 3) fun x15=>br (decide ((x15:Int)<0)) (ret (i64 1)) (ret (i64 0))) (ret (i64 0))))))
theorem F.rt.Runtime.uJ.calls(p0:OA)(p1:LTs [kI,kI,kI,kI]):Cf 169 [pV p0,.agg #[i64 p1.1,i64 p1.2.1,i64 p1.2.2.1,i64 p1.2.2.2.1]] (F.rt.Runtime.uJ p0 p1):=Tryz.cd F.rt.Runtime.uJ.T Tryz.func169
def F.rt.Runtime.made.T:az:=⟨(fun|5=>[(6,kI),(7,kI),(26,kI)]|_=>[]),fun _=>none,fun _=> .quiet⟩
def F.rt.Runtime.made(p0:OA)(p1:Value):Tree:=nn p0 fun a1=>dP (fa a1 0) fun x2=>nn x2 fun a3=>dP (fa a3 1) fun x4=>cI 174 [pV x4] fun r5=>br ((r5:Int)==0) (ret (.tuple #[i64 0,i64 3])) (lu Zp p1 [] (.many [.l kI,.l kI]) fun(r6:KTs _)=>nw 4 [.bool false,.bool true] fun b7=>lp [kI,kI,kI] (fun X8 u9=>br (decide ((u9.2.2.1:Int)<(2:Nat))) (ix (some ⟨b7,0,none⟩) 2 u9.2.2.1 1 fun a10=>dB a10 fun x11=>br ((u9.2.1:Int) != 3) (br ((u9.2.1:Int) != 0) (ret (.tuple #[i64 0,i64 u9.2.1])) (cN 164 [pV p0,i64 u9.1] [.l kI,.l kI] fun r12=>ret (.tuple #[i64 r12.1,i64 r12.2.1]))) (nn p0 fun a12=>dP (fa a12 0) fun x13=>cN 90 [pV x13,.bool x11] [.g [.slice,.slice,.slice,.slice],.l kI] fun r14=>lu Zp p1 [] (.many [.l kI,.l kI]) fun(r15:KTs _)=>X8 (r15.1,r15.2.1,IntKind.wrap .i64 (u9.2.2.1+1),()))) (br ((u9.2.1:Int) != 0) (ret (.tuple #[i64 0,i64 u9.2.1])) (cN 164 [pV p0,i64 u9.1] [.l kI,.l kI] fun r10=>ret (.tuple #[i64 r10.1,i64 r10.2.1])))) (r6.1,r6.2.1,0,()))
theorem F.rt.Runtime.made.calls(p0:OA)(p1:Value):Cf 170 [pV p0,p1] (F.rt.Runtime.made p0 p1):=Tryz.ce F.rt.Runtime.made.T Tryz.func170 [.va (pV p0),.op p1]
def F.rt.Runtime.qj.T:az:=⟨fun _=>[],fun _=>none,(fun|1=> .held (some 17) (gF [0,1,2,3,4,5,6,7,8,9,10,11,12,13,14,15,16] (.go 17 true (gF [18,19,20,21] .nil)))|_=> .quiet)⟩
def F.rt.Runtime.qj(c0 c1 c2:Addr):Tree:=cD<|Gl.held fun S1=>eP S1 c0 fun x2=>nn x2 fun a3=>eP S1 (fa a3 0) fun x4=>nn x4 fun a5=>eP S1 (fa a5 0) fun x6=>eI S1 (fa c1 1) fun x7=>eI S1 c2 fun x8=>eI S1 (fa c1 3) fun x9=>eP S1 c0 fun x10=>nn x10 fun a11=>eP S1 (fa a11 0) fun x12=>cI 173 [pV x12] fun r13=>aZ S1<|cN 172 [pV x6,i64 x7,i64 x8,i64 x9,i64 r13] [.l kI,.l kI] fun r14=>ret (.tuple #[i64 r14.1,i64 r14.2.1])
theorem F.rt.Runtime.qj.calls(c0 c1 c2:Addr):Cf 171 [pV (some c0),pV (some c1),pV (some c2)] (F.rt.Runtime.qj c0 c1 c2):=Tryz.ce F.rt.Runtime.qj.T Tryz.func171 [.pa c0,.pa c1,.pa c2]
def F.rt.Runtime.ow.T:az:=⟨fun _=>[],fun _=>none,(fun|1=> .held (some 14) (gF [0,1,2,3,4,5,6,7,8,9,10,11,12,13] (.go 14 true (gF [15,16,17,18] .nil)))|_=> .quiet)⟩
def F.rt.Runtime.ow(c0 c1:OA):Tree:=cD<|Gl.held fun S1=>nn c0 fun a2=>eP S1 a2 fun x3=>nn x3 fun a4=>eP S1 (fa a4 0) fun x5=>nn x5 fun a6=>eP S1 (fa a6 0) fun x7=>nn x7 fun a8=>eP S1 (fa a8 0) fun x9=>nn x9 fun a10=>eP S1 (fa a10 0) fun x11=>nn c1 fun a12=>eG S1 [kI,kI,kI,.bool] a12 fun x13=>cN 225 [pV x11,.agg #[i64 x13.1,i64 x13.2.1,i64 x13.2.2.1,.bool x13.2.2.2.1]] [.l kI,.l kI] fun r14=>ret (.tuple #[i64 r14.1,i64 r14.2.1])
theorem F.rt.Runtime.ow.calls(c0 c1:OA):Cf 224 [pV c0,pV c1] (F.rt.Runtime.ow c0 c1):=Tryz.cd F.rt.Runtime.ow.T Tryz.func224
variable{ρ0 ρ:FR}{L L':List aD}{Post:Value→List aD→Prop}{T:Tree}
namespace Hn
theorem Fq(hs:List Slot)(i:Nat):(jM hs i).length=if(bM hs i).2≠0 then 1 else 0:=by unfold jM;split<;>rfl
theorem G0{hs:List Slot}(n:Nat):((List.range n).flatMap (jM hs)).length=n↔∀j,j<n→(bM hs j).2≠0:=by
 induction n with
 |zero=>simp
 |succ n ih=>have hle:=gp (hs:=hs) n;rw[List.range_succ,List.flatMap_append,List.length_append,List.flatMap_singleton,Fq];grind
theorem zd{hs:List Slot}(hl:hs.length=512):(all hs).length=512↔free hs=none:=by
 unfold all;rw[hl,G0];constructor;·exact fun h=>vk fun j hj=>h j ae
 ·exact fun h j hj=>Di h j ae
end Hn
theorem Ha(p:Nat){hs:List Hn.Slot}(H:Hn.Ok hs):Gl.Spec ρ Zp 174 [.pointer (some ⟨p,0,none⟩)] [kM p hs] R1
  fun r M=>r=512-((Hn.all hs).length:Nat)∧M=[kM p hs]:=by
 refine Gl.Spec.of (fun Q w h=>F.handle.aW.Room.calls _ h) fun R=>?_;have hl:(Hn.all hs).length≤512:=by unfold Hn.all;rw[H.len];exact Hn.gp _
 refine bF<|ai (xe p H) ar ?_;rintro r _ ⟨hr,rfl⟩;rw[bG,hr];refine tD _ ?_;exact rT
theorem FH(p:Nat){hs:List Hn.Slot}(H:Hn.Ok hs)(x:Int):Gl.Spec ρ Zp 226 [.pointer (some ⟨p,0,none⟩),i64 x] [kM p hs] P2
  fun r M=>r=((Hn.held hs x).1,(Hn.held hs x).2,())∧M=[kM p hs]:=by
 refine Gl.Spec.of (fun Q w h=>F.handle.aW.AG.calls _ x h) fun R=>?_;have hl:=H.len;refine ai (yq p H x) ar ?_;rintro r _ ⟨hr,rfl⟩;unfold Hn.held;cases hf:Hn.find hs x with
 |none=>rw[hf]at hr;exact bg (by rw[hr];rfl)<|rT
 |some k=>rw[hf]at hr;obtain⟨hk,rfl⟩:=hr;refine bF<|af (l9 ae ae ?_);rw[aO,aO,aO];rw[show 0+0+(k:Int).toNat*2+1=k*2+1 by omega];exact aT rfl tk (kL ae).2<|rT
def Rx.jK(ro:List Int)(i:Int):Int×Int:=if 0≤i∧i<16 then(ro.getD i.toNat 0,0)else(0,1)
theorem vH(p:Nat)(ro:List Int)(hl:ro.length=16)(i:Int):Gl.Spec ρ Zp 168 [.pointer (some ⟨p,0,none⟩),i64 i] [au p (ro.map i64)] P2
  fun r M=>r=((Rx.jK ro i).1,(Rx.jK ro i).2,())∧M=[au p (ro.map i64)]:=by
 refine Gl.Spec.of (fun Q w h=>F.root.jB.Ld.calls _ i h) fun R=>?_;have hp:Gl.Spec ρ Zp 233 [.pointer (some ⟨p,0,none⟩),i64 i] [] RB fun r M=>r=decide (0≤i∧i<16)∧M=[]:=by
  refine Gl.Spec.of (fun Q w h=>F.root.jB.place.calls _ i h) fun R=>bg rfl (ag (fun h=>?_) (fun h=>?_))
  ·refine ax ?_ ⟨rfl,rfl⟩ ar bE;have:decide (0≤i∧i<16)=decide (i<16):=by grind
   rw[this];rfl
  ·refine ax ?_ ⟨rfl,rfl⟩ ar bE;have:decide (0≤i∧i<16)=false:=by grind
   rw[this];rfl
 apply cE hp;unfold Rx.jK;refine ag (fun h=>?_) (fun h=>?_)
 ·have h':¬(0≤i∧i<16):=by grind
  rw[if_neg h'];exact rT
 ·have h':0≤i∧i<16:=by grind
  rw[if_pos h'];refine af (l9 h'.1 ae ?_);rw[aO,aO];refine aT (x:=ro.getD i.toNat 0) rfl tk ?_ ?_;·rw[show 0+0+i.toNat*1=i.toNat by omega];exact getD_map ae
  exact rT
theorem kS{p hp:Nat}{rows:List (List Int)}{n:Int}{f:Option Addr→Tree}{a:Addr}(ha:a=⟨p,0,none⟩)(t:Take L (eL p hp rows n) L')(h:Tr ρ0 ρ (eL p hp rows n::L') (f (some ⟨hp,0,none⟩)) Post):
  Tr ρ0 ρ L (ld (.l .ptr) a fun x=>nn x fun b=>ld (.l .ptr) (fa b 0) f) Post:=by subst ha;refine eL.op t fun q=>iL<|af (gN bL tk ?_);exact Tr.close ar (eL.cl) h
theorem JU{p hp:Nat}{rows:List (List Int)}{n:Int}{f:Option Addr→Tree}{a:Addr}(ha:a=⟨p,0,none⟩)(t:Take L (eL p hp rows n) L')(h:∀q:Nat,Tr ρ0 ρ (au p [.pointer (some ⟨q,0,none⟩),i64 n]::db q hp rows::L') (f (some ⟨q,0,none⟩)) Post):
  Tr ρ0 ρ L (ld (.l .ptr) a f) Post:=by subst ha;exact eL.op t fun q=>lP _ 0 q (h q)
abbrev Pl.Q(i:Pl)(q:Nat)(x:Rt):List aD:=au q [.pointer (some ⟨i.p,0,none⟩)]::i.A x
namespace Rx
def iE(x:Rt)(v:Int):Int×Int:=if v=0 then(0,0)else if Hn.free x.hs=none then(0,3)else Hn.iD x.hs v
def eD(x:Rt)(v:Int):Rt:=if v=0 then x else{x with hs:=Hn.gH x.hs v}
def fh(x:Rt)(h:Int)(orNone:Bool):Int×Int:=if orNone=true∧h=0 then(0,0)else Hn.held x.hs h
def jC(x:Rt)(a k:Int):Int×Bool×Int:=match Ob.head x.S a with
 |none=>(0,false,2)
 |some h=>if h.k=4 then(0,false,5)else if(Ob.get x.S a k).2≠0 then(0,false,(Ob.get x.S a k).2)else((Ob.get x.S a k).1,decide (k∈Ob.refs x.S x.cs a),0)
theorem DI{hs:List Hn.Slot}(h:Hn.free hs=none)(v:Int):Hn.gH hs v=hs:=by unfold Hn.gH;rw[h];split<;>rfl
end Rx
theorem qy(i:Pl)(x:Rt)(H:Hn.Ok x.hs){k:Int→Tree}(t:Take L (kM i.h x.hs) L')(h0:Hn.free x.hs=none→Tr ρ0 ρ (kM i.h x.hs::L') (k 0) Post)(h1:∀r:Int,r≠0→Hn.free x.hs≠none→Tr ρ0 ρ (kM i.h x.hs::L') (k r) Post):
  Tr ρ0 ρ L (call Zp 174 [.pointer (some ⟨i.h,0,none⟩)] (.one (.l (.int .i64))) k) Post:=by refine ai (Ha _ H) (.cons t .nil) ?_;rintro _ _ ⟨rfl,rfl⟩;have:=Hn.zd H.len;grind
theorem mN(i:Pl)(q:Nat)(x:Rt)(H:Hn.Ok x.hs)(v:Int):Gl.Spec ρ Zp 164 [.pointer (some ⟨q,0,none⟩),i64 v] (i.Q q x) P2
  fun r M=>r=((Rx.iE x v).1,(Rx.iE x v).2,())∧M=i.Q q (Rx.eD x v):=by
 refine Gl.Spec.of (fun Q w h=>F.rt.Runtime.given.calls _ v h) fun R=>?_;unfold Rx.iE Rx.eD;refine ag (fun h=>?_) (fun h=>?_)
 ·have h':v=0:=by simpa using h
  rw[if_pos h',if_pos h'];exact rT
 have h':v≠0:=by simpa using h
 rw[if_neg h',if_neg h'];refine af<|iL<|af ?_;refine iL<|qy i x H tk (fun e=>?_) (fun r hr e=>?_);·rw[if_pos e,Rx.DI e];exact bT<|rT
 ·rw[if_neg e];refine ak (by simpa using hr)<|af<|iL<|af ?_;refine iL<|cE (F1 _ H v) ?_;exact rT
theorem kx(i:Pl)(q:Nat)(x:Rt)(H:Hn.Ok x.hs)(h:Int)(orNone:Bool):Gl.Spec ρ Zp 162 [.pointer (some ⟨q,0,none⟩),i64 h,.bool orNone] (i.Q q x) P2
  fun r M=>r=((Rx.fh x h orNone).1,(Rx.fh x h orNone).2,())∧M=i.Q q x:=by
 refine Gl.Spec.of (fun Q w hh=>F.rt.Runtime.held.calls _ h orNone hh) fun R=>?_;unfold Rx.fh;have go:∀{e:Int×Int},e=Hn.held x.hs h→Tr ρ ρ (i.Q q x++R) (nn (some ⟨q,0,none⟩) fun a1=>ld (.l .ptr) (fa a1 0) fun(x2:Option Addr)=>nn x2 fun a3=>ld (.l .ptr) (fa a3 1) fun(x4:Option Addr)=>call Zp 226 [.pointer x4,.int .i64 h] (.many [.l (.int .i64),.l (.int .i64)]) fun(r5:KTs _)=>ret (.tuple #[.int .i64 r5.1,.int .i64 r5.2.1]))
   (SP P2 (fun r M=>r=(e.1,e.2,())∧M=i.Q q x) R):=fun{e} he=>by subst he;refine af<|iL<|af ?_;refine iL<|cE (FH _ H h) ?_;exact rT
 refine ag (fun h1=>?_) (fun h1=>?_)
 ·refine ag (fun h2=>?_) (fun h2=>?_);·rw[if_pos ⟨h1,by simpa using h2⟩];exact rT
  ·exact go (if_neg fun g=>by simp[g.2]at h2)
 ·exact go (if_neg fun g=>by simp[g.1]at h1)
abbrev MB:RK:= .many [.l (.int .i64),.l .bool,.l (.int .i64)]
theorem tI(i:Pl)(q:Nat)(x:Rt)(hw:aY x.S x.cs)(a k:Int):Gl.Spec ρ Zp 163 [.pointer (some ⟨q,0,none⟩),i64 a,i64 k] (i.Q q x) MB
  fun r M=>r=((Rx.jC x a k).1,(Rx.jC x a k).2.1,(Rx.jC x a k).2.2,())∧M=i.Q q x:=by
 refine Gl.Spec.of (fun Q w hh=>F.rt.Runtime.field.calls _ a k hh) fun R=>af<|iL<|af ?_;refine iL<|af (kS bL tk ?_);refine cE (du _ _ _ hw a)<|aq fun b10=>?_;rw[show zc Zp 72=[.int .i64 0,.int .i64 0,.int .i64 0,.bool false] by kernel_rfl];refine iT ?_;unfold Rx.jC;cases hh:Ob.head x.S a with
 |none=>exact bT<|rT
 |some h=>
  dsimp only;refine bF<|lI _ 0 h.k<|ag (fun h1=>?_) (fun h1=>?_)
  ·have h1:h.k=4:=by simpa using h1
   rw[if_pos h1];exact rT
  ·have h1:h.k≠4:=by simpa using h1
   rw[if_neg h1];refine af<|iL<|af ?_;refine iL<|af (kS bL tk ?_);refine cE (iC _ _ _ hw a k)<|ag (fun h2=>?_) (fun h2=>?_)
   ·have h2:(Ob.get x.S a k).2≠0:=by simpa using h2
    rw[if_pos h2];exact rT
   ·have h2:(Ob.get x.S a k).2=0:=by simpa using h2
    rw[if_neg (fun g=>g h2)];refine af<|iL<|af ?_;refine iL<|af (kS bL tk ?_);refine ai (sI _ _ _ hw a) ar ?_;rintro r _ ⟨hr,rfl⟩;have hrl:=tz hw a;refine cE (mZ r (Ob.refs x.S x.cs a) (Rd.sl .here eV) ae k)<|tD _ ?_;exact rT
abbrev wW(k a b c:Int):Value:= .agg #[i64 k,i64 a,i64 b,i64 c]
abbrev bH:=(Int×Int)×Rt
namespace Rx
variable(x:Rt)
def re(h:Int)(f:Int→bH):bH:=if(fh x h false).2≠0 then((0,(fh x h false).2),x)else f (fh x h false).1
def D7(h:Int)(f:Int→bH):bH:=if(fh x h true).2≠0 then((0,(fh x h true).2),x)else f (fh x h true).1
def get(a b:Int):bH:=re x a fun bM=>if(jC x bM b).2.2≠0∨(jC x bM b).2.1=false then(((jC x bM b).1,(jC x bM b).2.2),x)else(iE x (jC x bM b).1,eD x (jC x bM b).1)
def set(a b c:Int):bH:=re x a fun bM=>D7 x c fun to=>if(jC x bM b).2.2≠0 then((0,(jC x bM b).2.2),x)else if(jC x bM b).2.1=false then((0,5),x)else
 ((0,(Ob.put x.S bM b to).1),{x with S:=(Ob.put x.S bM b to).2})
def put(a b c:Int):bH:=re x a fun bM=>if(jC x bM b).2.2≠0 then((0,(jC x bM b).2.2),x)else if(jC x bM b).2.1=true then((0,5),x)else
 ((0,(Ob.put x.S bM b c).1),{x with S:=(Ob.put x.S bM b c).2})
def drop(a:Int):bH:=((0,Hn.nF x.hs a),{x with hs:=Hn.kP x.hs a})
def kc(i a:Int):Int:=if(0≤i∧i<16)∧0≤a then 0 else 1
def cO(ro:List Int)(i a:Int):List Int:=if(0≤i∧i<16)∧0≤a then ro.set i.toNat a else ro
def root(a b:Int):bH:=D7 x b fun bM=>((0,kc a bM),{x with ro:=cO x.ro a bM})
def take(a:Int):bH:=if(jK x.ro a).2≠0 then((0,(jK x.ro a).2),x)else(iE x (jK x.ro a).1,eD x (jK x.ro a).1)
def aC(a:Int):bH:=re x a fun bM=>match Ob.head x.S bM with
 |none=>((0,5),x)
 |some hd=>if hd.k≠4 then((0,5),x)else if hd.c=3 then((0,0),x)else
  if(Ob.get x.S bM 0).2≠0∨(Ob.get x.S bM 0).1=0 then((0,(Ob.get x.S bM 0).2),x)else if Hn.free x.hs=none then((0,3),x)else
  if(Rf.aC x.S bM x.ck).1.2≠0 then((0,(Rf.aC x.S bM x.ck).1.2),{x with S:=(Rf.aC x.S bM x.ck).2})else
  (iE {x with S:=(Rf.aC x.S bM x.ck).2} (Rf.aC x.S bM x.ck).1.1,eD {x with S:=(Rf.aC x.S bM x.ck).2} (Rf.aC x.S bM x.ck).1.1)
def clear(a:Int):bH:=re x a fun bM=>((0,(Rf.clear x.S [bM]).1),{x with S:=(Rf.clear x.S [bM]).2})
def enqueue(a:Int):bH:=re x a fun bM=>(if(Rf.dJ x.S x.rows bM).1.2≠0∨(Rf.dJ x.S x.rows bM).1.1=false then(0,(Rf.dJ x.S x.rows bM).1.2)else(1,0),{x with S:=(Rf.dJ x.S x.rows bM).2.1,rows:=(Rf.dJ x.S x.rows bM).2.2})
def lO:bH:=(if x.rows.length=8 then(0,3)else((x.rows.length:Nat),0),{x with rows:=if x.rows.length=8 then x.rows else x.rows++[[]]})
def jl(a:Int):bH:=if Qu.has x.rows a=false then((0,2),x)else if Qu.row x.rows a=[]then((0,0),x)else if Hn.free x.hs=none then((0,3),x)else
 if(Qu.jA x.rows a).2≠0 then((0,(Qu.jA x.rows a).2),{x with S:=Qu.dq x.S x.rows a,rows:=Qu.fK x.rows a})else
 (iE {x with S:=Qu.dq x.S x.rows a,rows:=Qu.fK x.rows a} (Qu.jA x.rows a).1,eD {x with S:=Qu.dq x.S x.rows a,rows:=Qu.fK x.rows a} (Qu.jA x.rows a).1)
def final(a:Int):bH:=re x a fun bM=>((0,(Ob.final x.S bM).1),{x with S:=(Ob.final x.S bM).2,wa:=if(Ob.final x.S bM).1=0 then x.wa++[bM]else x.wa})
def run(a b c:Int):bH:=
 if a<0∨a≥x.pe.length∨b<0∨b>2 then((0,1),x)else if b=1∧(jK x.ro c).2≠0 then((0,1),x)else if b=2∧Hn.free x.hs=none then((0,3),x)else
 if(Fn.gJ x.pe a).2≠0 then((0,(Fn.gJ x.pe a).2),{x with pe:=Fn.eX x.pe a})else
 if b=1 then((0,kc c (Fn.gJ x.pe a).1),{x with pe:=Fn.eX x.pe a,ro:=cO x.ro c (Fn.gJ x.pe a).1})else
 if b=2 then(iE {x with pe:=Fn.eX x.pe a} (Fn.gJ x.pe a).1,eD {x with pe:=Fn.eX x.pe a} (Fn.gJ x.pe a).1)else((0,0),{x with pe:=Fn.eX x.pe a})
def tick(a:Int):bH:=if a<0 then((0,1),x)else((0,0),{x with ck:=Sf.later x.ck a})
def counts:List Int:=[x.used,x.free,(x.pe.length:Nat),((Sp.each x.S).length:Nat),x.rn]
def count(a:Int):bH:=if a<0∨a≥5 then((0,1),x)else(((counts x).getD a.toNat 0,0),x)
end Rx
abbrev pd(ρ:FR)(f:FuncId)(i:Pl)(q:Nat)(k a b c:Int)(x:Rt)(y:bH):Prop:=
 Gl.Spec ρ Zp f [.pointer (some ⟨q,0,none⟩),wW k a b c] (i.Q q x) P2 fun r M=>r=(y.1.1,y.1.2,())∧M=i.Q q y.2
variable(i:Pl)(q:Nat)(k a b c:Int)(x:Rt)(H:x.Ok)
include H
theorem JZ:pd ρ 104 i q k a b c x (Rx.get x a b):=by
 refine Gl.Spec.of (fun Q w hh=>F.rt.Runtime.get.calls _ (k,a,b,c,()) hh) fun R=>aq fun b1=>iL<|cE (kx i q x H.hs a _) ?_;unfold Rx.get Rx.re;generalize Rx.fh x a false=h;refine ag (fun e=>?_) (fun e=>?_)
 ·have e:h.2≠0:=by simpa using e
  rw[if_pos e];exact rT
 have e:h.2=0:=by simpa using e
 rw[if_neg (fun g=>g e)];refine iL<|cE (tI i q x H.hw _ b) ?_;try simp only[c8,c9]
 generalize Rx.jC x h.1 b=f;refine ag (fun e1=>?_) (fun e1=>?_)
 ·have e1:f.2.2≠0:=by simpa using e1
  rw[if_pos (.inl e1)];exact rT
 have e1:f.2.2=0:=by simpa using e1
 refine ag (fun e2=>?_) (fun e2=>?_)
 ·have e2:f.2.1=false:=by simpa using e2
  rw[if_pos (.inr e2)];exact rT
 have e2:f.2.1=true:=by simpa using e2
 rw[if_neg (by rw[e1,e2];simp)];apply cE (mN i q x H.hs _);exact rT
theorem Kg:pd ρ 105 i q k a b c x (Rx.set x a b c):=by
 refine Gl.Spec.of (fun Q w hh=>F.rt.Runtime.set.calls _ (k,a,b,c,()) hh) fun R=>aq fun b1=>iL<|cE (kx i q x H.hs a _) ?_;unfold Rx.set Rx.re Rx.D7;generalize Rx.fh x a false=h;refine ag (fun e=>?_) (fun e=>?_)
 ·have e:h.2≠0:=by simpa using e
  rw[if_pos e];exact rT
 have e:h.2=0:=by simpa using e
 rw[if_neg (fun g=>g e)];refine iL<|cE (kx i q x H.hs c _) ?_;try simp only[c8,c9]
 generalize Rx.fh x c true=t;refine ag (fun e=>?_) (fun e=>?_)
 ·have e:t.2≠0:=by simpa using e
  rw[if_pos e];exact rT
 have e:t.2=0:=by simpa using e
 rw[if_neg (fun g=>g e)];refine iL<|cE (tI i q x H.hw _ b) ?_;generalize Rx.jC x h.1 b=f;refine ag (fun e1=>?_) (fun e1=>?_)
 ·have e1:f.2.2≠0:=by simpa using e1
  rw[if_pos e1];exact rT
 have e1:f.2.2=0:=by simpa using e1
 rw[if_neg (fun g=>g e1)];refine ag (fun e2=>?_) (fun e2=>?_)
 ·have e2:f.2.1=false:=by simpa using e2
  rw[if_pos e2];exact rT
 have e2:f.2.1=true:=by simpa using e2
 rw[if_neg (by rw[e2];simp)];refine aA<|af<|iL<|af ?_;refine iL<|af (kS bL tk ?_);refine iL<|cE (fD _ _ _ H.hw _ b _) ?_;exact rT
theorem La:pd ρ 106 i q k a b c x (Rx.put x a b c):=by
 refine Gl.Spec.of (fun Q w hh=>F.rt.Runtime.put.calls _ (k,a,b,c,()) hh) fun R=>aq fun b1=>iL<|cE (kx i q x H.hs a _) ?_;unfold Rx.put Rx.re;generalize Rx.fh x a false=h;refine ag (fun e=>?_) (fun e=>?_)
 ·have e:h.2≠0:=by simpa using e
  rw[if_pos e];exact rT
 have e:h.2=0:=by simpa using e
 rw[if_neg (fun g=>g e)];refine iL<|cE (tI i q x H.hw _ b) ?_;try simp only[c8,c9]
 generalize Rx.jC x h.1 b=f;refine ag (fun e1=>?_) (fun e1=>?_)
 ·have e1:f.2.2≠0:=by simpa using e1
  rw[if_pos e1];exact rT
 have e1:f.2.2=0:=by simpa using e1
 rw[if_neg (fun g=>g e1)];refine ag (fun e2=>?_) (fun e2=>?_);·rw[if_pos e2];exact rT
 rw[if_neg (by rw[e2];simp)];refine aA<|af<|iL<|af ?_;refine iL<|af (kS bL tk ?_);refine iL<|iL<|cE (fD _ _ _ H.hw _ b c) ?_;exact rT
theorem JB:pd ρ 107 i q k a b c x (Rx.drop x a):=by refine Gl.Spec.of (fun Q w hh=>F.rt.Runtime.drop.calls _ (k,a,b,c,()) hh) fun R=>aq fun b1=>aA<|af<|iL<|af ?_;refine iL<|iL<|cE (FM _ H.hs a) ?_;exact rT
theorem Jd:pd ρ 108 i q k a b c x (Rx.root x a b):=by
 refine Gl.Spec.of (fun Q w hh=>F.rt.Runtime.root.calls _ (k,a,b,c,()) hh) fun R=>aq fun b1=>iL<|cE (kx i q x H.hs b _) ?_;unfold Rx.root Rx.D7;generalize Rx.fh x b true=h;refine ag (fun e=>?_) (fun e=>?_)
 ·have e:h.2≠0:=by simpa using e
  rw[if_pos e];exact rT
 have e:h.2=0:=by simpa using e
 rw[if_neg (fun g=>g e)];refine aA<|af<|iL<|af ?_;refine iL<|iL<|cE (uv _ _ H.ro a _) ?_;exact rT
theorem HM:pd ρ 109 i q k a b c x (Rx.take x a):=by
 refine Gl.Spec.of (fun Q w hh=>F.rt.Runtime.take.calls _ (k,a,b,c,()) hh) fun R=>aq fun b1=>aA (aK [au q [.pointer _],au i.p _,au _ [i64 k,i64 a,i64 b,i64 c]] ar ?_);refine af (hP q 0 _ ?_);refine af (hP _ 2 _ ?_);refine jL<|cE (vH _ _ H.ro a) ?_;unfold Rx.take;refine ag (fun e=>?_) (fun e=>?_)
 ·have e:(Rx.jK x.ro a).2≠0:=by simpa using e
  rw[if_pos e];exact rT
 have e:(Rx.jK x.ro a).2=0:=by simpa using e
 rw[if_neg (fun g=>g e)];apply cE (mN i q x H.hs (Rx.jK _ a).1);exact rT
theorem zH:pd ρ 111 i q k a b c x (Rx.aC x a):=by
 refine Gl.Spec.of (fun Q w hh=>F.rt.Runtime.aC.calls _ (k,a,b,c,()) hh) fun R=>aq fun b1=>iL<|cE (kx i q x H.hs a _) ?_;unfold Rx.aC Rx.re;generalize Rx.fh x a false=h;refine ag (fun e=>?_) (fun e=>?_)
 ·have e:h.2≠0:=by simpa using e
  rw[if_pos e];exact rT
 have e:h.2=0:=by simpa using e
 rw[if_neg (fun g=>g e)];refine af<|iL<|af ?_;refine iL<|af (kS bL tk ?_);apply cE (du _ _ _ H.hw _);try simp only[c8,c9]
 refine aq fun b13=>?_;rw[show zc Zp 72=[.int .i64 0,.int .i64 0,.int .i64 0,.bool false] by kernel_rfl];refine iT ?_;cases hh:Ob.head x.S h.1 with
 |none=>exact bT<|rT
 |some hd=>
  dsimp only;refine bF<|lI _ 0 hd.k<|ag (fun e1=>?_) (fun e1=>?_)
  ·have e1:hd.k≠4:=by simpa using e1
   rw[if_pos e1];exact rT
  have e1:hd.k=4:=by simpa using e1
  rw[if_neg (fun g=>g e1)];refine lI _ 1 hd.c<|ag (fun e2=>?_) (fun e2=>?_)
  ·have e2:hd.c=3:=by simpa using e2
   rw[if_pos e2];exact rT
  have e2:hd.c≠3:=by simpa using e2
  rw[if_neg e2];refine af<|iL<|af ?_;refine iL<|af (kS bL tk ?_);apply cE (iC _ _ _ H.hw _ 0);generalize Ob.get x.S h.1 0=g;refine ag (fun e3=>?_) (fun e3=>?_)
  ·have e3:g.2≠0:=by simpa using e3
   rw[if_pos (.inl e3)];exact ak (by simpa using e3)<|rT
  have e3:g.2=0:=by simpa using e3
  refine ag (fun e4=>?_) (fun e4=>?_)
  ·have e4:g.1=0:=by simpa using e4
   rw[if_pos (.inr e4)];refine bg (by simpa using e3) (ak (by simpa using e4) ?_);exact rT
  have e4:g.1≠0:=by simpa using e4
  rw[if_neg (fun h=>h.elim (fun h=>h e3) e4)];refine af<|iL<|af ?_;refine iL<|qy i x H.hs tk (fun e=>?_) (fun r hr e=>?_);·rw[if_pos e];refine bg rfl (bg (by simpa using e3) (bg (by simpa using e4) ?_));exact rT
  rw[if_neg e];refine ak (by simpa using hr)<|aA (aK [au q [.pointer _],au i.p _] ar ?_);refine af (hP q 0 _ ?_);refine af (hP _ 0 _ ?_);refine af (hP q 0 _ ?_);apply cE (yF i x);refine cK<|cE (xA _ _ _ _ H.hw _ _ _ _) ?_;generalize Rf.aC x.S h.1 x.ck=y;refine ag (fun e5=>?_) (fun e5=>?_)
  ·have e5:y.1.2≠0:=by simpa using e5
   rw[if_pos e5];exact rT
  have e5:y.1.2=0:=by simpa using e5
  rw[if_neg (fun g=>g e5)];apply cE (mN i q {x with S:=y.2} H.hs _);exact rT
theorem GU:pd ρ 112 i q k a b c x (Rx.clear x a):=by
 refine Gl.Spec.of (fun Q w hh=>F.rt.Runtime.clear.calls _ (k,a,b,c,()) hh) fun R=>aq fun b1=>iL<|cE (kx i q x H.hs a _) ?_;unfold Rx.clear Rx.re;generalize Rx.fh x a false=h;refine ag (fun e=>?_) (fun e=>?_)
 ·have e:h.2≠0:=by simpa using e
  rw[if_pos e];exact rT
 have e:h.2=0:=by simpa using e
 rw[if_neg (fun g=>g e)];refine af<|iL<|af ?_;refine iL<|aq fun b8=>Tr.kT (b:=b8) (cs:=[i64 h.1]) tk fun ρ1 ⟨ty,hb⟩ hle=>cE (rC _ _ _ _ H.hw _ _ ⟨some ⟨b8,0,none⟩,1,1⟩ [h.1] ⟨rfl,.inr ⟨b8,0,_,ty,_,rfl,hb,fun j hj=>by simp⟩⟩ (by show 1<2^40;decide)) ?_;exact rT
theorem AJ(hq:QB x.S):pd ρ 113 i q k a b c x (Rx.enqueue x a):=by
 refine Gl.Spec.of (fun Q w hh=>F.rt.Runtime.enqueue.calls _ (k,a,b,c,()) hh) fun R=>aq fun b1=>iL<|cE (kx i q x H.hs a _) ?_;unfold Rx.enqueue Rx.re;generalize Rx.fh x a false=h;refine ag (fun e=>?_) (fun e=>?_)
 ·have e:h.2≠0:=by simpa using e
  rw[if_pos e];exact rT
 have e:h.2=0:=by simpa using e
 rw[if_neg (fun g=>g e)];refine af<|iL<|af ?_;refine iL ?_;have hz:=uL H.rows;apply cE (sF _ _ _ _ H.hw _ hz _ _ (xw H.hw hq hz _).2.2.2);try simp only[c8,c9]
 generalize Rf.dJ x.S x.rows h.1=y;refine ag (fun e1=>?_) (fun e1=>?_)
 ·have e1:y.1.2≠0:=by simpa using e1
  rw[if_pos (.inl e1)];exact rT
 have e1:y.1.2=0:=by simpa using e1
 refine ag (fun e2=>?_) (fun e2=>?_)
 ·have e2:y.1.1=false:=by simpa using e2
  rw[if_pos (.inr e2)];exact rT
 have e2:y.1.1=true:=by simpa using e2
 rw[if_neg (by rw[e1,e2];simp)];exact rT
theorem IC:pd ρ 114 i q k a b c x (Rx.lO x):=by
 refine Gl.Spec.of (fun Q w hh=>F.rt.Runtime.open.calls _ (k,a,b,c,()) hh) fun R=>aq fun b1=>af<|iL<|af ?_;refine iL<|af (JU bL tk fun qq=>?_);apply cE (Ff _ _ _ H.rows.sZ);refine Tr.close ar (eL.cl) ?_;unfold Rx.lO;by_cases e:x.rows.length=8;·simp only[if_pos e];exact rT
 ·simp only[if_neg e];exact rT
theorem Ei:pd ρ 116 i q k a b c x (Rx.final x a):=by
 refine Gl.Spec.of (fun Q w hh=>F.rt.Runtime.final.calls _ (k,a,b,c,()) hh) fun R=>aq fun b1=>iL<|cE (kx i q x H.hs a _) ?_;unfold Rx.final Rx.re;generalize Rx.fh x a false=h;refine ag (fun e=>?_) (fun e=>?_)
 ·have e:h.2≠0:=by simpa using e
  rw[if_pos e];exact rT
 have e:h.2=0:=by simpa using e
 rw[if_neg (fun g=>g e)];refine af<|iL<|af ?_;refine iL ?_;have hwa:=H.wa;apply cE (Dj _ _ _ _ H.hw x.wa _ ae _);exact rT
theorem HU(hc:x.ck<9223372036854775808)(ha:a<9223372036854775808):pd ρ 119 i q k a b c x (Rx.tick x a):=by
 have _:=H;refine Gl.Spec.of (fun Q w hh=>F.rt.Runtime.tick.calls _ (k,a,b,c,()) hh) fun R=>aq fun b1=>iL ?_;unfold Rx.tick;refine ag (fun e=>?_) (fun e=>?_);·have e:=of_decide_eq_true e;rw[if_pos e];exact rT
 have e:=of_decide_eq_false e;rw[if_neg e];refine aA<|af<|iL<|iL<|ai (Iv i x a hc ha) ar ?_;rintro _ _ rfl;exact rT
end
section
open Go Go.Gl
variable{ρ0 ρ:FR}{L L':List aD}{Post:Value→List aD→Prop}{T:Tree}
theorem DA(p hp:Nat)(rows:List (List Int))(i:Int)(h':Qu.has rows i=false):Gl.Spec ρ Zp 141 [.pointer (some ⟨p,0,none⟩),i64 i] [db p hp rows] SE
  fun r M=>r=(⟨none,0,0⟩,2,())∧M=[db p hp rows]:=by exact Gl.Spec.of (fun Q w h=>F.queue.de.List.calls _ i h) fun R=>cE (qQ p _ _ i)<|bg (by rw[h'];rfl)<|rT
theorem Ii(i:Pl)(q:Nat)(k a b c:Int)(x:Rt)(H:x.Ok):pd ρ 115 i q k a b c x (Rx.jl x a):=by
 refine Gl.Spec.of (fun Q w hh=>F.rt.Runtime.jl.calls _ (k,a,b,c,()) hh) fun R=>aq fun b1=>eL.op tk fun qq=>aA (aK [au q [.pointer _],au i.p _,au _ [i64 k,i64 a,i64 b,i64 c],au _ [.pointer _,i64 x.bb]] ar ?_);refine af (hP q 0 _ ?_);refine af (hP _ 0 _ ?_);refine af (hP _ 0 _ ?_);refine jL ?_;unfold Rx.jl;have cl:∀{rows:List (List Int)} {S:aJ} {T:Tree} {P:Value→List aD→Prop} {L L':List aD},aI L [au i.r [.pointer (some ⟨qq,0,none⟩),i64 x.bb],db qq i.b rows] L'→Tr ρ ρ (eL i.r i.b rows x.bb::L') T P→Tr ρ ρ L T P:=fun t h=>
  Tr.close t (eL.cl (p:=i.r) (q:=qq) (hp:=i.b) (n:=x.bb)) h;cases hh:Qu.has x.rows a with
 |false=>refine cE (DA _ _ _ a hh)<|bT ?_;exact cl (S:=x.S) ar<|rT
 |true=>
  have hm:=ku hh;have hlen:=H.rows.len _ hm;refine ai (yz _ _ _ _ H.hw _ a hh (H.rows.lk _ hm) ae) ar ?_;rintro _ _ ⟨s,rfl,hs,rfl⟩;rw[if_neg bd];refine bF<|ag (fun e=>?_) (fun e=>?_)
  ·have e:(s.n:Int)=0:=by simpa using e
   rw[if_pos (List.eq_nil_of_length_eq_zero ae)];exact cl (S:=x.S) ar<|rT
  rw[if_neg (fun g=>by grind)];refine af<|iL<|af ?_;refine iL<|qy i x H.hs tk (fun e=>?_) (fun r hr e=>?_);·rw[if_pos e];exact bT<|cl (S:=x.S) ar<|rT
  rw[if_neg e];refine ak (by simpa using hr)<|aA (aK [au q [.pointer _],au i.p _,au _ [i64 k,i64 a,i64 b,i64 c],au _ [.pointer _,i64 x.bb]] ar ?_);refine af (hP q 0 _ ?_);refine af (hP _ 0 _ ?_);refine af (hP _ 0 _ ?_);refine jL<|cE (Fu _ _ _ _ H.hw _ H.rows.lk a) ?_;refine cl (S:=x.S) ar ?_;generalize Qu.jA x.rows a=y;generalize Qu.dq x.S x.rows a=S';generalize Qu.fK x.rows a=rows';refine tD (aw s 1 _)<|ag (fun e5=>?_) (fun e5=>?_)
  ·have e5:y.2≠0:=by simpa using e5
   rw[if_pos e5];exact rT
  have e5:y.2=0:=by simpa using e5
  rw[if_neg (fun g=>g e5)];apply cE (mN i q {x with S:=S',rows:=rows'} H.hs _);exact rT
theorem Lc(i:Pl)(q:Nat)(k a b c:Int)(x:Rt)(H:x.Ok):pd ρ 117 i q k a b c x (Rx.run x a b c):=by
 refine Gl.Spec.of (fun Q w hh=>F.rt.Runtime.run.calls _ (k,a,b,c,()) hh) fun R=>?_;have hpe:=H.pe;refine aq fun b1=>aA (aK [au q [.pointer _],au i.p _,au _ [i64 k,i64 a,i64 b,i64 c]] ar ?_);refine af (hP q 0 _ ?_);refine af (hP _ 2 _ ?_);refine jL<|cE (vH _ _ H.ro c) ?_;have main:_→Rx.run x a b c=_:=fun h=>if_pos h;refine iV (fun _ M=>Rx.run x a b c=(if(Fn.gJ x.pe a).2≠0 then((0,(Fn.gJ x.pe a).2),{x with pe:=Fn.eX x.pe a})else
   if b=1 then((0,Rx.kc c (Fn.gJ x.pe a).1),{x with pe:=Fn.eX x.pe a,ro:=Rx.cO x.ro c (Fn.gJ x.pe a).1})else
   if b=2 then(Rx.iE {x with pe:=Fn.eX x.pe a} (Fn.gJ x.pe a).1,Rx.eD {x with pe:=Fn.eX x.pe a} (Fn.gJ x.pe a).1)else((0,0),{x with pe:=Fn.eX x.pe a}))∧
  M=au b1 [i64 k,i64 a,i64 b,i64 c]::(i.Q q x++R)) ?_ ?_
 ·rintro _ _ ⟨e0,rfl⟩;rw[e0];refine aA (aK [au q [.pointer _],au i.p _,au _ [i64 k,i64 a,i64 b,i64 c]] ar ?_);refine af (hP q 0 _ ?_);refine af (hP _ 3 _ ?_);refine jL<|cE (E9 _ _ _ x.pe ae a) ?_;generalize Fn.gJ x.pe a=y;generalize Fn.eX x.pe a=pe';refine ag (fun e=>?_) (fun e=>?_)
  ·have e:y.2≠0:=by simpa using e
   rw[if_pos e];exact rT
  have e:y.2=0:=by simpa using e
  rw[if_neg (fun g=>g e)];refine iL<|ag (fun e=>?_) (fun e=>?_)
  ·have e:b=1:=by simpa using e
   rw[if_pos e];refine aA<|af<|iL<|af ?_;refine iL<|iL<|cE (uv _ _ H.ro c _) ?_;exact rT
  have e:b≠1:=by simpa using e
  rw[if_neg e];refine iL<|ag (fun e=>?_) (fun e=>?_)
  ·have e:b=2:=by simpa using e
   rw[if_pos e];apply cE (mN i q {x with pe:=pe'} H.hs _);exact rT
  ·have e:b≠2:=by simpa using e
   rw[if_neg e];exact rT
 ·intro J hJ;refine aA (aK [au q [.pointer _],au i.p _,au _ [i64 k,i64 a,i64 b,i64 c]] ar ?_);refine jL<|ag (fun e=>?_) (fun e=>?_);·have e:=of_decide_eq_true e;rw[main (.inl e)];exact kK [au q [.pointer _],au _ _,au _ [i64 k,i64 a,i64 b,i64 c]] ar (fun w h=>h)<|rT
  have e1:=of_decide_eq_false e;refine jL<|af (hP q 0 _ ?_);refine af (hP _ 3 _ ?_);refine ai (lV _ _ _ x.pe ae) ar ?_;rintro s _ ⟨hs,rfl⟩;refine aS ar (kK [au q [.pointer _],au _ _,au _ [i64 k,i64 a,i64 b,i64 c]] ar (fun w h=>h) ?_);refine tD _<|ag (fun e=>?_) (fun e=>?_);·have e:=of_decide_eq_true e;rw[main (.inr (.inl ae))];exact rT
  have e2:=of_decide_eq_false e;refine jL<|ag (fun e=>?_) (fun e=>?_);·have e:=of_decide_eq_true e;rw[main (.inr (.inr (.inl e)))];exact rT
  have e3:=of_decide_eq_false e;refine jL<|ag (fun e=>?_) (fun e=>?_);·have e:=of_decide_eq_true e;rw[main (.inr (.inr (.inr e)))];exact rT
  have e4:=of_decide_eq_false e;have m1:Rx.run x a b c=_:=if_neg (fun g=>by omega);refine iL<|ag (fun e=>?_) (fun e=>?_)
  ·have e5:b=1:=by simpa using e
   refine ag (fun e=>?_) (fun e=>?_)
   ·have e:(Rx.jK x.ro c).2≠0:=by simpa using e
    rw[m1,if_pos ⟨e5,e⟩];exact rT
   refine iL ?_;exact ak (by simp[e5])<|tP (au _ [i64 k,i64 a,i64 b,i64 c]::i.Q q x) (hJ () _ ⟨by grind,rfl⟩)
  have e5:b≠1:=by simpa using e
  refine iL<|ag (fun e=>?_) (fun e=>?_)
  ·have e6:b=2:=by simpa using e
   refine af<|iL<|af ?_;refine iL<|qy i x H.hs tk (fun e=>?_) (fun r hr e=>?_);·refine bT ?_;rw[m1,if_neg (fun g=>e5 g.1),if_pos ⟨e6,e⟩];exact rT
   ·exact ak (by simpa using hr)<|tP (au _ [i64 k,i64 a,i64 b,i64 c]::i.Q q x) (hJ () _ ⟨by grind,rfl⟩)
  exact tP (au _ [i64 k,i64 a,i64 b,i64 c]::i.Q q x) (hJ () _ ⟨by grind,rfl⟩)
theorem zK{p:Nat}{S:aJ}{cs:List aX}{f:Option Addr→Tree}{a:Addr}(ha:a=⟨p,0,none⟩)(t:Take L (aF p S cs) L')
  (h:∀ps pt:Nat,Tr ρ0 ρ (aP ps S::au p [.pointer (some ⟨ps,0,none⟩),.pointer (some ⟨pt,0,none⟩)]::cA pt cs::L') (f (some ⟨ps,0,none⟩)) Post):Tr ρ0 ρ L (ld (.l .ptr) a f) Post:=by subst ha;exact aF.op t fun ps pt=>iL<|Tr.take tk (h _ _)
def Rt.jF(x x':Rt)(all:Bool):Prop:=∃(z1 z2:av) (l:List da) (m2 m3:List Bool),kl x.S x.cs (x.CS z1 z2 all) x.roots x.wa l m2 m3∧
 x'=x.after (aU x.S m2 m3 l) (bV x.S m3 (aU x.S m2 m3 l)) (bI x.S m2 x.wa) (Mk.all m3)
theorem Rt.jF.inv{x x':Rt}{all:Bool}(h:x.jF x' all){N:Int}(I:x.Inv N):x'.Inv (N+1):=by obtain⟨z1,z2,l,m2,m3,hC,rfl⟩:=h;exact I.after hC
theorem oz(i:Pl)(x:Rt)(H:x.L6)(all:Bool):Gl.Spec ρ Zp 90 [.pointer (some ⟨i.p,0,none⟩),.bool all] (i.A x) OE
  fun r M=>∃(s1 s2 s3 s4:av) (A1 A2 A3 A4:aD) (x':Rt),r=((s1,s2,s3,s4,()),0,())∧x.jF x' all∧M=[A1,A2,A3,A4]++i.A x':=
 Spec.post (BL i x H all) fun r M ⟨z1,z2,s1,s2,s3,s4,l,m2,m3,hC,hr,hM⟩=>⟨s1,s2,s3,s4,_,_,_,_,_,hr,⟨z1,z2,l,m2,m3,hC,rfl⟩,hM⟩
namespace Rx
def cJ(x:Rt)(a:Int)(y:bH):Prop:=if a≠0∧a≠1 then y=((0,1),x)else∃x',x.jF x' (a==1)∧y=(((((Sp.each x.S).length:Nat):Int)-(((Sp.each x'.S).length:Nat):Int),(0:Int)),x')
end Rx
theorem AN(i:Pl)(q:Nat)(k a b c:Int)(x:Rt){N:Int}(I:x.Inv N)(hN:N+1<2^50):
  Gl.Spec ρ Zp 118 [.pointer (some ⟨q,0,none⟩),wW k a b c] (i.Q q x) P2 fun r M=>∃y:bH,Rx.cJ x a y∧r=(y.1.1,y.1.2,())∧M=i.Q q y.2:=by
 refine Gl.Spec.of (fun Q w hh=>F.rt.Runtime.collect.calls _ (k,a,b,c,()) hh) fun R=>?_;have H:=I.JW ae;refine aq fun b1=>?_;rw[vM];refine iV (fun _ M=>¬(a≠0∧a≠1)∧M=au b1 [i64 k,i64 a,i64 b,i64 c]::(i.Q q x++R)) ?_ ?_
 ·rintro _ _ ⟨ha,rfl⟩;refine af<|iL<|af ?_;refine iL<|af (kS bL tk ?_);refine af (zK bL tk fun ps pt=>?_);refine ai (jw _ _ H.hw.wf) ar ?_;rintro s _ ⟨hs,rfl⟩;refine Tr.close ar (aF.cl)<|Tr.drop (A:=aw s 1 _) tk<|aA (aK [au q [.pointer _],au _ [i64 k,i64 a,i64 b,i64 c]] ar ?_);refine af (bo bL tk rfl ?_);refine jL ?_;have hel:=Sp.df H.hw.wf;have fin:∀(x':Rt) {LL RR:List aD},x.jF x' (a==1)→aI LL (i.Q q x') RR→RR=RR→
    Tr ρ ρ LL (nn (some ⟨q,0,none⟩) fun a21=>ld (.l .ptr) (fa a21 0) fun(x22:Option Addr)=>nn x22 fun a23=>ld (.l .ptr) (fa a23 0) fun(x24:Option Addr)=>nn x24 fun a25=>ld (.l .ptr) (fa a25 0) fun(x26:Option Addr)=>
     nn x26 fun a27=>ld (.l .ptr) (fa a27 0) fun(x28:Option Addr)=>nn x28 fun a29=>ld (.l .ptr) (fa a29 0) fun(x30:Option Addr)=>call Zp 136 [.pointer x30] (.one (.l .slice)) fun(r31:av)=>
     ret (.tuple #[.int .i64 (IntKind.wrap .i64 ((s.n:Nat)-(r31.n:Nat))),.int .i64 0])) (SP P2 (fun r M=>∃y:bH,Rx.cJ x a y∧r=(y.1.1,y.1.2,())∧M=i.Q q y.2) RR):=fun x' LL RR hC hp _=>by
   have I':=hC.inv I;have hw':=I'.w.hw;have hel':=Sp.df hw'.wf;refine Tr.perm hp.perm<|af<|iL<|af ?_;refine iL<|af (kS bL tk ?_);refine af (zK bL tk fun ps pt=>?_);refine ai (jw _ _ hw'.wf) ar ?_;rintro s' _ ⟨hs',rfl⟩;refine Tr.close ar (aF.cl)<|Tr.drop (A:=aw _ 1 _) tk ?_;rw[bG,hs,hs'];have hy:Rx.cJ x a (((((Sp.each x.S).length:Nat):Int)-(((Sp.each x'.S).length:Nat):Int),0),x'):=by unfold Rx.cJ;grind
   exact ax rfl ⟨_,hy,rfl,rfl⟩ ar bE
  refine cr ?_ ?_;·refine ai (oz i x H _) ar ?_;rintro _ _ ⟨s1,s2,s3,s4,A1,A2,A3,A4,x',rfl,hC,rfl⟩;refine aq fun b20=>iT<|bF<|Tr.drop (A:=A1) tk (Tr.drop (A:=A2) tk (Tr.drop (A:=A3) tk (Tr.drop (A:=A4) tk ?_)));refine Tr.drop tk (Tr.drop (A:=au _ [i64 k,i64 a,i64 b,i64 c]) tk ?_);exact fin _ hC ar rfl
  ·refine aq fun b20=>aS ar<|ai (oz i x H _) ar ?_;rintro _ _ ⟨s1,s2,s3,s4,A1,A2,A3,A4,x',rfl,hC,rfl⟩;refine iT<|bF ?_;refine Tr.drop (A:=A1) tk (Tr.drop (A:=A2) tk (Tr.drop (A:=A3) tk (Tr.drop (A:=A4) tk ?_)));refine Tr.drop tk (Tr.drop (A:=au _ [i64 k,i64 a,i64 b,i64 c]) tk ?_);exact fin _ hC ar rfl
 ·intro J hJ;refine iL<|ag (fun e=>?_) (fun e=>?_)
  ·have e1:a≠0:=by simpa using e
   refine iL<|ag (fun e=>?_) (fun e=>?_)
   ·have e2:a≠1:=by simpa using e
    have hy:Rx.cJ x a ((0,1),x):=by unfold Rx.cJ;rw[if_pos ⟨e1,e2⟩]
    exact ax rfl ⟨_,hy,rfl,rfl⟩ ar bE
   ·simp_all
  ·simp_all
theorem Fs(i:Pl)(q:Nat)(k a b c:Int)(x:Rt)(H:x.Ok):pd ρ 120 i q k a b c x (Rx.count x a):=by
 refine Gl.Spec.of (fun Q w hh=>F.rt.Runtime.count.calls _ (k,a,b,c,()) hh) fun R=>?_;unfold F.rt.Runtime.count;try simp only[c8,c9]
 have hpe:=H.pe;have hws:=H.ws;have hul:=o0 H.hw.wf;refine aq fun b1=>eL.op (p:=i.r) (hp:=i.b) (rows:=x.rows) (n:=x.bb) tk fun qq=>db.op (p:=qq) (hp:=i.b) (rows:=x.rows) tk fun z hz=>aF.op (p:=i.b) (S:=x.S) (cs:=x.cs) tk fun ps pt=>af<|iL<|af ?_;refine iL ?_;refine af (aT bL tk rfl ?_);refine af (aT bL tk rfl ?_);refine af (aT bL tk rfl ?_);apply cE (pO _ _ H.hw.wf);try simp only[c8,c9]
 refine aA (aK [au q [.pointer _],au i.p _,au _ [.pointer _,i64 x.bb],au _ [.pointer _,.slice _ _ z.c],au _ [.pointer _,.pointer _]] ar ?_);iterate 2
  try refine af (bo (k:= .ptr) (b:=q) (off:=0) (x:=some ⟨i.p,0,none⟩) bL tk rfl ?_)
  try refine af (bo (k:= .ptr) (b:=i.p) (off:=0) (x:=some ⟨i.r,0,none⟩) bL tk rfl ?_)
  try refine af (bo (k:= .ptr) (b:=i.r) (off:=0) (x:=some ⟨qq,0,none⟩) bL tk rfl ?_)
  try refine af (bo (k:= .ptr) (b:=qq) (off:=0) (x:=some ⟨i.b,0,none⟩) bL tk rfl ?_)
  try refine af (bo (k:= .ptr) (b:=i.b) (off:=0) (x:=some ⟨ps,0,none⟩) bL tk rfl ?_)
  try refine af (bo (k:= .ptr) (b:=q) (off:=0) (x:=some ⟨i.p,0,none⟩) bL tk rfl ?_)
  try refine af (bo (k:= .ptr) (b:=i.p) (off:=3) (x:=some ⟨i.f,0,none⟩) bL tk rfl ?_)
 try simp only[c8,c9]
 apply cE (wg _ _ H.ws (by have:=H.hw.wf.len;have:=H.hw.wf.fF;omega));try simp only[c8,c9]
 refine aS ar<|ai (lV _ _ _ x.pe ae) ar ?_;rintro s _ ⟨hs,rfl⟩;try simp only[c8,c9]
 refine aS ar<|ai (jw _ _ H.hw.wf) ar ?_;rintro s' _ ⟨hs',rfl⟩;try simp only[c8,c9]
 refine aS ar<|cE (Iq i x) ?_;try simp only[c8,c9]
 have hwl:=H.hw.wf.len;have hwm:=H.hw.wf.fF;refine aq fun b44=>?_;rw[bG (n:=((x.S.ws.length-64:Nat):Int)-_),hs,hs'];refine Tr.drop (A:=aw s 1 _) tk (Tr.drop (A:=aw _ 1 _) tk ?_);refine Tr.close (M:=[au i.b [.pointer (some ⟨ps,0,none⟩),.pointer (some ⟨pt,0,none⟩)],aP ps x.S,cA pt x.cs]) ar (aF.cl (p:=i.b))<|Tr.close ar (db.cl (p:=qq) (hp:=i.b) (rows:=x.rows) hz)<|Tr.close ar (eL.cl (p:=i.r) (q:=qq) (hp:=i.b) (rows:=x.rows) (n:=x.bb))<|Tr.take (A:=au _ ((Rx.counts x).map _)) tk ?_;unfold Rx.count;refine iL<|ag (fun e=>?_) (fun e=>?_);·have e:a<0:=of_decide_eq_true e;rw[if_pos (.inl e)];exact rT
 have e1:¬a<0:=of_decide_eq_false e;refine iL<|ag (fun e=>?_) (fun e=>?_);·have e:a≥5:=of_decide_eq_true e;rw[if_pos (.inr e)];exact rT
 have e2:¬a≥5:=of_decide_eq_false e;rw[if_neg (fun g=>g.elim e1 e2)];refine aT (k:= .int .i64) (b:=b1) (off:=1) (x:=a) (by rw[aO]) tk rfl<|l9 (by omega) (by omega) ?_;rw[aO];refine aT (k:= .int .i64) (b:=b44) (off:=0+a.toNat*1) (x:=(Rx.counts x).getD a.toNat 0) rfl tk ?_ ?_;·rw[show 0+a.toNat*1=a.toNat by omega];exact getD_map (by show _<5;omega)
 exact rT
namespace Rx
def tv(mk:Rt→bH)(x:Rt)(y:bH):Prop:=
 ((mk x).1.2≠3∧y=mk x)∨((mk x).1.2=3∧∃x1,(mk x).2.jF x1 false∧(((mk x1).1.2≠3∧y=mk x1)∨((mk x1).1.2=3∧∃x2,(mk x1).2.jF x2 true∧y=mk x2)))
def dv(mk:Rt→bH)(x:Rt)(y:bH):Prop:=if Hn.free x.hs=none then y=((0,3),x)else∃z,tv mk x z∧y=if z.1.2≠0 then((0,z.1.2),z.2)else(iE z.2 z.1.1,eD z.2 z.1.1)
theorem lj{x:Rt}{N:Int}(I:x.Inv N)(v:Int):(eD x v).Inv N:=by
 unfold eD;split;·exact I
 ·exact{I with h:=I.h.hold v}
def JJ(mk:Rt→bH)(x:Rt)(j:Nat)(z:bH):Prop:=
 (j=0∧z=mk x)∨(j=1∧(mk x).1.2=3∧∃x1,(mk x).2.jF x1 false∧z=mk x1)∨(j=2∧(mk x).1.2=3∧∃x1,(mk x).2.jF x1 false∧(mk x1).1.2=3∧∃x2,(mk x1).2.jF x2 true∧z=mk x2)
theorem JJ.tries{mk:Rt→bH}{x:Rt}{j:Nat}{z:bH}(h:JJ mk x j z)(hz:z.1.2≠3∨j=2):tv mk x z:=by
 rcases h with ⟨rfl,rfl⟩|⟨rfl,h1,x1,h2,rfl⟩|⟨rfl,h1,x1,h2,h3,x2,h4,rfl⟩;·exact .inl ⟨hz.resolve_right bd,rfl⟩
 ·exact .inr ⟨h1,x1,h2,.inl ⟨hz.resolve_right bd,rfl⟩⟩
 ·exact .inr ⟨h1,x1,h2,.inr ⟨h3,x2,h4,rfl⟩⟩
theorem JJ.next{mk:Rt→bH}{x x':Rt}{j:Nat}{z:bH}(h:JJ mk x j z)(hz:z.1.2=3)(hj:j<2)(hc:z.2.jF x' (j==1)):JJ mk x (j+1) (mk x'):=by
 rcases h with ⟨rfl,rfl⟩|⟨rfl,h1,x1,h2,rfl⟩|⟨rfl,_⟩;·exact .inr (.inl ⟨rfl,hz,x',hc,rfl⟩)
 ·exact .inr (.inr ⟨rfl,h1,x1,h2,hz,x',hc,rfl⟩)
 ·omega
end Rx
theorem KF:∀{j:Nat},j<2→([.bool false,.bool true]:List Value)[j]? =some (LK.val .bool (j==1))
 |0,_=>rfl
 |1,_=>rfl
theorem EH(i:Pl)(q:Nat)(x:Rt)(C:aD)(mk:Rt→bH){N:Int}(hN:N+10<2^49)(z:bH)(e:Hn.free x.hs≠none){LL R:List aD}(ht:Rx.tv mk x z)(Iz:z.2.Inv (N+10))(hp:aI LL (C::i.Q q z.2) R):
  Tr ρ ρ LL (br ((z.1.2:Int) != 0) (ret (.tuple #[.int .i64 0,.int .i64 z.1.2])) (call Zp 164 [.pointer (some ⟨q,0,none⟩),.int .i64 z.1.1] (.many [.l (.int .i64),.l (.int .i64)]) fun(r12:KTs _)=>ret (.tuple #[.int .i64 r12.1,.int .i64 r12.2.1])))
   (SP P2 (fun r M=>∃y:bH,Rx.dv mk x y∧y.2.Inv (N+10)∧r=(y.1.1,y.1.2,())∧M=C::i.Q q y.2) R):=by
 refine Tr.perm hp.perm<|ag (fun e1=>?_) (fun e1=>?_)
 ·have hy:Rx.dv mk x ((0,z.1.2),z.2):=by unfold Rx.dv;grind
  exact rT ⟨_,hy,Iz,rfl,rfl⟩
 ·apply cE (mN i q _ (Iz.h.ok ae) _);have hy:Rx.dv mk x (Rx.iE z.2 z.1.1,Rx.eD z.2 z.1.1):=by unfold Rx.dv;grind
  exact rT ⟨_,hy,Rx.lj Iz _,rfl,rfl⟩
theorem CC(i:Pl)(q:Nat)(x:Rt)(C:aD){f:FuncId}{fn:Func}{cv:Array Value}(hf:Tryz.prog.funcs[f]? =some fn)(hb:fn.body.isSome=true)(mk:Rt→bH){N:Int}(I:x.Inv N)(hN:N+10<2^49)
  (hm:∀(M:Int) (y:Rt),y.Inv M→M<2^49→Gl.Spec ρ Zp f ([]++cv.toList) (C::i.Q q y) P2 (fun r L=>r=((mk y).1.1,(mk y).1.2,())∧L=C::i.Q q (mk y).2)∧(mk y).2.Inv (M+1)):
  Gl.Spec ρ Zp 170 [.pointer (some ⟨q,0,none⟩),.func (.func f) #[] cv] (C::i.Q q x) P2
  fun r M=>∃y:bH,Rx.dv mk x y∧y.2.Inv (N+10)∧r=(y.1.1,y.1.2,())∧M=C::i.Q q y.2:=by
 refine Gl.Spec.of (fun Q w hh=>F.rt.Runtime.made.calls _ _ hh) fun R=>af<|iL<|af ?_;refine iL ?_;have hok:=I.h.ok (show N<2^50 by omega);refine qy i x hok tk (fun e=>?_) (fun r hr e=>?_)
 ·refine bT ?_;have hy:Rx.dv mk x ((0,3),x):=by unfold Rx.dv;rw[if_pos e]
  exact ax rfl ⟨_,hy,I.le ae,rfl,rfl⟩ ar bE
 apply ak (by simpa using hr);obtain⟨s0,I0⟩:=hm N x I ae;refine mK hf hb s0 ar ?_;rintro _ _ ⟨rfl,rfl⟩;refine aq fun b7=>?_;have fin:=fun z {LL:List aD} ht Iz hp=>EH (ρ:=ρ) (LL:=LL) (R:=R) i q x C mk hN z e ht Iz hp;apply aM (I:=fun n u M=>∃(j:Nat) (z:bH),j≤2∧n=2-j∧u=(z.1.1,z.1.2,(j:Int),())∧Rx.JJ mk x j z∧z.2.Inv (N+2*j+1)∧M=au b7 [.bool false,.bool true]::C::(i.Q q z.2++R)) 2 ⟨0,mk x,ae,rfl,rfl,.inl ⟨rfl,rfl⟩,I0.le ae,rfl⟩;rintro n _ _ ⟨j,z,hj,rfl,rfl,ht,Iz,rfl⟩ X hX;try simp only[c8,c9]
 refine ag (fun hc=>?_) (fun hc=>?_)
 ·have hj':j<2:=by grind
  apply l9 ae ae;rw[aO];refine aT (x:=(j==1)) rfl tk ?_ ?_;·rw[show 0+(j:Int).toNat*1=j by omega];exact KF hj'
  refine ag (fun e1=>?_) (fun e1=>?_)
  ·have e1:z.1.2≠3:=by simpa using e1
   exact Tr.drop tk<|fin z (ht.tries (.inl e1)) (Iz.le ae) ar
  ·have e1:z.1.2=3:=by simpa using e1
   refine af<|iL<|ai (oz i _ (Iz.JW ae) _) ar ?_;rintro _ _ ⟨s1,s2,s3,s4,A1,A2,A3,A4,x',rfl,hC,rfl⟩;refine Tr.drop tk (Tr.drop tk (Tr.drop tk (Tr.drop tk ?_)));have Ix:=hC.inv Iz;obtain⟨s1,I1⟩:=hm _ x' Ix ae;refine mK hf hb s1 ar ?_;rintro _ _ ⟨rfl,rfl⟩;rw[bG (n:=(j:Int)+1)];exact Tr.perm (aI.perm (M:=au _ [.bool false,.bool true]::C::i.Q q (mk _).2) ar) (hX _ _ _ ae ⟨j+1,mk x',ae,rfl,rfl,ht.next e1 hj' hC,I1.le ae,rfl⟩)
 ·have hj':j=2:=by grind
  exact Tr.drop tk<|fin z (ht.tries (.inr hj')) (Iz.le ae) ar
def Rx.mk(h:Hd)(y:Rt):bH:=(((Ob.make y.S y.cs h).1,(Ob.make y.S y.cs h).2.1),{y with S:=(Ob.make y.S y.cs h).2.2})
theorem Tr.FA{M:List aD}(t:Take L (star M) L')(h:Tr ρ0 ρ (M++L') T Post):Tr ρ0 ρ L T Post:=
 Tr.iW (M:=fun _:Unit=>M) (c:=fun _=>True) t (fun _ h=>⟨(),trivial,h⟩) (fun _ _=>h)
abbrev HW(b1 b2 q:Nat)(h:Hd):List aD:=[au b1 [.pointer (some ⟨q,0,none⟩)],au b2 [.int .i64 h.k,.int .i64 h.c,.int .i64 h.n,.bool h.f]]
theorem BF(i:Pl)(q b1 b2:Nat)(h:Hd)(y:Rt)(hw:aY y.S y.cs):Gl.Spec ρ Zp 224 [.pointer (some ⟨b1,0,none⟩),.pointer (some ⟨b2,0,none⟩)] (star (HW b1 b2 q h)::i.Q q y) P2
  fun r L=>r=((Rx.mk h y).1.1,(Rx.mk h y).1.2,())∧L=star (HW b1 b2 q h)::i.Q q (Rx.mk h y).2:=by refine Gl.Spec.of (fun Q w hh=>F.rt.Runtime.ow.calls _ _ hh) fun R=>Tr.FA tk<|eL.op tk fun qq=>db.op tk fun z hz=>aA (aK [au _ [.pointer _],au _ [.int _ h.k,.int _ h.c,.int _ h.n,.bool h.f],au q [.pointer _],au i.p _,au _ [.pointer _,i64 y.bb],au _ [.pointer _,.slice _ _ z.c]] ar ?_);refine af (hP _ 0 q ?_);refine af (hP q 0 _ ?_);refine af (hP _ 0 _ ?_);refine af (hP _ 0 _ ?_);refine af (hP _ 0 _ ?_);refine af (qh (x:=(h.k,h.c,h.n,h.f,())) [] rfl tk rfl ?_);refine Tr.close ar (db.cl hz)<|tC (eL.cl) ?_;refine Tr.close (M:=HW _ _ q h) ar (fun h H=>H)<|cE (sH _ _ _ hw h) ?_;exact rT
theorem rJ(i:Pl)(q:Nat)(x:Rt)(h:Hd)(hk:h.k≠4){N:Int}(I:x.Inv N)(hN:N+10<2^49):Gl.Spec ρ Zp 160 [.pointer (some ⟨q,0,none⟩),lC h] (i.Q q x) P2
  fun r M=>∃y:bH,Rx.dv (Rx.mk h) x y∧y.2.Inv (N+10)∧r=(y.1.1,y.1.2,())∧M=i.Q q y.2:=by
 refine Gl.Spec.of (fun Q w hh=>F.rt.Runtime.object.calls _ h.t hh) fun R=>aq fun b1=>aq fun b2=>iL<|Tr.close (A:=star (HW _ _ q h)) ar (fun h H=>H)<|ai (CC i q x _ Tryz.func224 (by kernel_rfl) (Rx.mk h) I hN fun M y Iy hM=>⟨?_,?_⟩) ar ?_;·exact BF i q _ _ h y Iy.w.hw
 ·exact{Iy with w:=Iy.w.make hk,bb:=⟨Iy.bb.1,by have:=Iy.bb.2;show y.bb≤_;omega⟩,rn:=⟨Iy.rn.1,by have:=Iy.rn.2;show y.rn≤_;omega⟩,h:=Iy.h.le ae}
 rintro _ _ ⟨y,hy,Iy,rfl,rfl⟩;refine tD _ ?_;exact rT ⟨y,hy,Iy,rfl,rfl⟩
namespace Rx
def dQ(x:Rt)(kind a:Int)(y:bH):Prop:=if a<0∨a>1023 then y=((0,1),x)else dv (mk ⟨kind,0,a,false⟩) x y
def fm(x:Rt)(a:Int)(y:bH):Prop:=if 1≤a∧a≤x.cs.length then dv (mk ⟨1,a,(x.cs.getD (a-1).toNat (0,[])).1,false⟩) x y else y=((0,2),x)
end Rx
theorem Hr(i:Pl)(q b1 b2:Nat)(kind k a b c:Int)(x:Rt)(hk:kind≠4){N:Int}(I:x.Inv N)(hN:N+10<2^49):
  Gl.Spec ρ Zp 161 [wW k a b c,.pointer (some ⟨b1,0,none⟩),.pointer (some ⟨b2,0,none⟩)] (au b1 [.pointer (some ⟨q,0,none⟩)]::au b2 [i64 kind]::i.Q q x) P2
  fun r M=>∃y:bH,Rx.dQ x kind a y∧y.2.Inv (N+10)∧r=(y.1.1,y.1.2,())∧M=au b1 [.pointer (some ⟨q,0,none⟩)]::au b2 [i64 kind]::i.Q q y.2:=by
 refine Gl.Spec.of (fun Q w hh=>F.rt.Runtime.Be.calls (k,a,b,c,()) _ _ hh) fun R=>aq fun b3=>iL ?_;have bad:_→Rx.dQ x kind a _:=fun h=>by unfold Rx.dQ;rw[if_pos h]
 refine ag (fun e=>?_) (fun e=>?_);·have e:=of_decide_eq_true e;exact rT ⟨_,bad (.inl e),I.le ae,rfl,rfl⟩
 refine iL<|ag (fun e=>?_) (fun e=>?_);·have e:=of_decide_eq_true e;exact rT ⟨_,bad (.inr e),I.le ae,rfl,rfl⟩
 refine af (lP _ 0 q ?_);refine af (lI _ 0 _ ?_);refine iL<|ai (rJ i q x ⟨kind,0,a,false⟩ hk I hN) ar ?_;rintro _ _ ⟨y,hy,Iy,rfl,rfl⟩;have hy':Rx.dQ x kind a y:=by unfold Rx.dQ;grind
 exact rT ⟨y,hy',Iy,rfl,rfl⟩
theorem FJ(i:Pl)(q:Nat)(k a b c:Int)(x:Rt){N:Int}(I:x.Inv N)(hN:N+10<2^49):
  Gl.Spec ρ Zp 102 [.pointer (some ⟨q,0,none⟩),wW k a b c] (i.Q q x) P2
  fun r M=>∃y:bH,Rx.fm x a y∧y.2.Inv (N+10)∧r=(y.1.1,y.1.2,())∧M=i.Q q y.2:=by
 refine Gl.Spec.of (fun Q w hh=>F.rt.Runtime.plain.calls _ (k,a,b,c,()) hh) fun R=>aq fun b1=>eL.op tk fun qq=>db.op tk fun z hz=>aF.op tk fun ps pt=>aA (aK [au _ [i64 k,i64 a,i64 b,i64 c],au q [.pointer _],au i.p _,au _ [.pointer _,i64 x.bb],au _ [.pointer _,.slice _ _ z.c],au _ [.pointer _,.pointer _]] ar ?_);refine af (hP q 0 _ ?_);refine af (hP _ 0 _ ?_);refine af (hP _ 0 _ ?_);refine af (hP _ 0 _ ?_);refine af (hP _ 1 _ ?_);refine jL ?_;have hz0:zc Zp 109=[.int .i64 0,.slice none 0 0]:=by kernel_rfl
 rw[hz0];have cl:∀{T:Tree} {P:Value→List aD→Prop} {L L':List aD},aI L [au i.r [.pointer (some ⟨qq,0,none⟩),i64 x.bb],au qq [.pointer (some ⟨i.b,0,none⟩),.slice z.a z.n z.c],aw z 2 (jS x.rows),au i.b [.pointer (some ⟨ps,0,none⟩),.pointer (some ⟨pt,0,none⟩)],aP ps x.S,cA pt x.cs] L'→
   Tr ρ ρ (eL i.r i.b x.rows x.bb::aF i.b x.S x.cs::L') T P→Tr ρ ρ L T P:=fun t h=>by exact Tr.perm t.perm<|Tr.close ar (aF.cl)<|Tr.close ar (db.cl hz)<|tC (eL.cl)<|h
 by_cases ha:1≤a∧a≤x.cs.length
 ·obtain⟨j,hj⟩:∃j:Nat,a=j+1:=⟨(a-1).toNat,ae⟩;have hjl:j<x.cs.length:=by omega
  have hcj:x.cs[j]? =some (x.cs.getD j (0,[])):=by grind
  have hcls:=kE (ρ:=ρ) pt x.cs j (x.cs.getD j (0,[])) hcj I.w.hw.cls (by have:=I.w.hw.refs (x.cs.getD j (0,[])) eV;omega);have hya:∀y,Rx.dv (Rx.mk ⟨1,a,(x.cs.getD j (0,[])).1,false⟩) x y→Rx.fm x a y:=fun y hy=>by unfold Rx.fm;simp_all
  rw[show a=(j:Int)+1 from hj]at*;generalize x.cs.getD j (0,[])=LV at*;refine cr ?_ ?_;·refine ai hcls ar ?_;rintro _ _ ⟨v,rfl,hv,rfl⟩;refine aq fun b15=>iT<|bF ?_;refine iL<|lI _ 0 _<|cl ar<|ai (rJ i q x ⟨1,_+1,LV.1,false⟩ (show 1≠4 by decide) I hN) ar ?_;rintro _ _ ⟨y,hy,Iy,rfl,rfl⟩;exact rT ⟨y,hya y hy,Iy,rfl,rfl⟩
  ·refine aq fun b15=>aS ar<|ai hcls ar ?_;rintro _ _ ⟨v,rfl,hv,rfl⟩;refine iT<|bF ?_;refine iL<|lI _ 0 _<|cl ar<|ai (rJ i q x ⟨1,_+1,LV.1,false⟩ (show 1≠4 by decide) I hN) ar ?_;rintro _ _ ⟨y,hy,Iy,rfl,rfl⟩;exact rT ⟨y,hya y hy,Iy,rfl,rfl⟩
 ·have hy:Rx.fm x a ((0,2),x):=by unfold Rx.fm;rw[if_neg ha]
  refine cr ?_ ?_;·refine cE (iO _ _ a ha)<|aq fun b15=>iT ?_;refine bg rfl (cl ar ?_);exact rT ⟨_,hy,I.le ae,rfl,rfl⟩
  ·refine aq fun b15=>aS ar<|cE (iO _ _ a ha) ?_;refine iT ?_;refine bg rfl (cl ar ?_);exact rT ⟨_,hy,I.le ae,rfl,rfl⟩
set_option maxRecDepth 100000
def F.cp.EG:Tree:=cN 11 [.agg #[i64 2,i64 0,i64 1]] [.l .ptr,.l kI] fun r1=>cB 15 [pV r1.1] fun r2=>br (!r2) (ret (.bool false)) (cI 13 [i64 r1.2.1] fun r3=>br ((r3:Int) != 0) (ret (.bool false)) (cG 17 [pV r1.1,.agg #[i64 0,i64 0,i64 0,i64 0]] [kI,kI] fun r4=>cG 17 [pV r1.1,.agg #[i64 4,i64 3,i64 0,i64 0]] [kI,kI] fun r5=>nw 36 (zc Zp 36) fun b6=>nw 36 (zc Zp 36) fun b7=>st (aB b6) [i64 r4.1,i64 r4.2.1]<|st (aB b7) [i64 r5.1,i64 r5.2.1]<|dI (fa (aB b6) 0) fun x8=>cI 13 [i64 x8] fun r9=>br ((r9:Int)==1) (dI (fa (aB b7) 0) fun x10=>cI 13 [i64 x10] fun r11=>br ((r11:Int)==0) (dI (fa (aB b7) 1) fun x12=>ret (.bool ((x12:Int)==512))) (ret (.bool false))) (ret (.bool false))))
theorem F.cp.EG.calls:Cf 14 [] (F.cp.EG):=Tryz.cd az.z Tryz.func14
def F.cp.Whole(p0:OA):Tree:=br (!(Option.isNone p0)) (nn p0 fun a1=>dP (fa a1 0) fun x2=>cB 38 [pV x2] fun r3=>ret (.bool r3)) (ret (.bool false))
theorem F.cp.Whole.calls(p0:OA):Cf 15 [pV p0] (F.cp.Whole p0):=Tryz.cd az.z Tryz.func15
namespace Rx
def jU(x:Rt)(a c:Int):Int:=if a<1 then 1 else if a>3 then 1 else if c< -1 then 2 else if c≥x.rows.length then 2 else if a=3∧c<0 then 1 else 0
def FT(a o c:Int)(y:Rt):bH:=(((Rf.bS y.S y.cs y.rows y.bb a o c y.ck).1,(Rf.bS y.S y.cs y.rows y.bb a o c y.ck).2.1),{y with S:=(Rf.bS y.S y.cs y.rows y.bb a o c y.ck).2.2.1,bb:=(Rf.bS y.S y.cs y.rows y.bb a o c y.ck).2.2.2})
def gq(x:Rt)(a b c:Int)(y:bH):Prop:=if(fh x b false).2≠0 then y=((0,(fh x b false).2),x)else if jU x a c≠0 then y=((0,jU x a c),x)else dv (FT a (fh x b false).1 c) x y
end Rx
theorem CU(i:Pl)(q:Nat)(k a b c:Int)(x:Rt):Gl.Spec ρ Zp 169 [.pointer (some ⟨q,0,none⟩),wW k a b c] (i.Q q x) R1 fun r M=>r=Rx.jU x a c∧M=i.Q q x:=by
 refine Gl.Spec.of (fun Q w hh=>F.rt.Runtime.uJ.calls _ (k,a,b,c,()) hh) fun R=>?_;unfold Rx.jU;refine aq fun b1=>iL<|ag (fun e=>?_) (fun e=>?_);·have e:=of_decide_eq_true e;rw[if_pos e];exact rT
 have e:=of_decide_eq_false e;rw[if_neg e];refine iL<|ag (fun e=>?_) (fun e=>?_);·have e:=of_decide_eq_true e;rw[if_pos e];exact rT
 have e:=of_decide_eq_false e;rw[if_neg e];refine eL.op tk fun qq=>aA (aK [au _ [i64 k,i64 a,i64 b,i64 c],au q [.pointer _],au i.p _,au _ [.pointer _,i64 x.bb]] ar ?_);refine jL<|ag (fun e=>?_) (fun e=>?_);·have e:=of_decide_eq_true e;rw[if_pos e];refine tC (eL.cl) ?_;exact rT
 have e:=of_decide_eq_false e;rw[if_neg e];refine jL<|af (hP q 0 _ ?_);refine af (hP _ 0 _ ?_);refine af (hP _ 0 _ ?_);apply cE (mL _ _ _);refine cK<|tC (eL.cl)<|ag (fun e=>?_) (fun e=>?_);·have e:c≥x.rows.length:=of_decide_eq_true e;rw[if_pos e];exact rT
 have e:¬c≥x.rows.length:=of_decide_eq_false e;rw[if_neg e];refine iL<|ag (fun e1=>?_) (fun e1=>?_)
 ·have e1:a=3:=by simpa using e1
  refine iL<|ag (fun e2=>?_) (fun e2=>?_);·rw[if_pos ⟨e1,of_decide_eq_true e2⟩];exact rT
  ·rw[if_neg (fun g=>(of_decide_eq_false e2) g.2)];exact rT
 ·have e1:a≠3:=by simpa using e1
  rw[if_neg (fun g=>e1 g.1)];exact rT
abbrev HY(b1 b2 b6 q:Nat)(k a b c o:Int):List aD:=[au b1 [.pointer (some ⟨q,0,none⟩)],au b2 [i64 k,i64 a,i64 b,i64 c],au b6 [i64 o]]
theorem CZ(i:Pl)(q b1 b2 b6:Nat)(k a b c o:Int)(y:Rt){M:Int}(I:y.Inv M)(hM:M<2^49):Gl.Spec ρ Zp 171 [.pointer (some ⟨b1,0,none⟩),.pointer (some ⟨b2,0,none⟩),.pointer (some ⟨b6,0,none⟩)] (star (HY b1 b2 b6 q k a b c o)::i.Q q y) P2
  fun r L=>r=((Rx.FT a o c y).1.1,(Rx.FT a o c y).1.2,())∧L=star (HY b1 b2 b6 q k a b c o)::i.Q q (Rx.FT a o c y).2:=by refine Gl.Spec.of (fun Q w hh=>F.rt.Runtime.qj.calls ⟨b1,0,none⟩ ⟨b2,0,none⟩ ⟨b6,0,none⟩ hh) fun R=>Tr.FA tk<|aA (aK [au _ [.pointer _],au _ [i64 k,i64 a,i64 b,i64 c],au _ [i64 o],au q [.pointer _],au _ _] ar ?_);refine jL<|af (hP q 0 _ ?_);refine af (hP _ 0 _ ?_);refine jL<|jL<|jL<|jL<|af (hP q 0 _ ?_);apply cE (yF i y);refine cK<|Tr.close (M:=HY _ _ _ q k a b c o) ar (fun h H=>H)<|cE (D4 _ _ _ _ I.w.hw _ _ a o c _ ⟨I.bb.1,by have:=I.bb.2;omega⟩ I.w.q.sZ) ?_;exact rT
theorem E7(i:Pl)(q:Nat)(k a b c:Int)(x:Rt){N:Int}(I:x.Inv N)(hN:N+10<2^49):
  Gl.Spec ρ Zp 110 [.pointer (some ⟨q,0,none⟩),wW k a b c] (i.Q q x) P2
  fun r M=>∃y:bH,Rx.gq x a b c y∧y.2.Inv (N+10)∧r=(y.1.1,y.1.2,())∧M=i.Q q y.2:=by
 refine Gl.Spec.of (fun Q w hh=>F.rt.Runtime.bS.calls _ (k,a,b,c,()) hh) fun R=>aq fun b1=>aq fun b2=>iL<|iL<|cE (kx i q x (I.h.ok ae) b _)<|aq fun b6=>?_;rw[show zc Zp 3=[.int .i64 0] by kernel_rfl];refine iT ?_;have hr:∀y,Rx.gq x a b c y=if(Rx.fh x b false).2≠0 then y=_ else if Rx.jU x a c≠0 then y=_ else Rx.dv _ x y:=fun y=>rfl;generalize Rx.fh x b false=h at*;refine ag (fun e=>?_) (fun e=>?_)
 ·have e:h.2≠0:=by simpa using e
  have hy:Rx.gq x a b c ((0,h.2),x):=by rw[hr,if_pos e]
  exact rT ⟨_,hy,I.le ae,rfl,rfl⟩
 refine iL<|iG ?_;refine cE (CU i q k a b c x)<|ag (fun e1=>?_) (fun e1=>?_)
 ·have hy:Rx.gq x a b c ((0,Rx.jU x a c),x):=by grind
  exact rT ⟨_,hy,I.le ae,rfl,rfl⟩
 refine iL<|Tr.close (M:=HY _ _ _ q k a b c _) ar (fun h H=>H)<|ai (CC i q x _ Tryz.func171 (by kernel_rfl) (Rx.FT a h.1 c) I hN fun M y Iy hM=>⟨?_,?_⟩) ar ?_;·exact CZ i q _ _ _ k a b c _ y Iy hM
 ·obtain⟨w',s1,s2⟩:=Iy.w.bS a h.1 c y.ck Iy.ck.2 Iy.bb.1;exact{w:=w',h:=Iy.h.le ae,ro:=Iy.ro,ck:=Iy.ck,bb:=⟨by have:=Iy.bb.1;show 0≤(Rf.bS _ _ _ _ a _ c _).2.2.2;omega,by have:=Iy.bb.2;show(Rf.bS _ _ _ _ a _ c _).2.2.2≤_;omega⟩,rn:=⟨Iy.rn.1,by have:=Iy.rn.2;show y.rn≤_;omega⟩,ba:=Iy.ba,stack:=Iy.stack}
 rintro _ _ ⟨y,hy,Iy,rfl,rfl⟩;refine tD _ ?_;have hy':Rx.gq x a b c y:=by grind
 exact rT ⟨y,hy',Iy,rfl,rfl⟩
namespace Rx
def bit(b:Int)(j:Nat):Bool:=(jk .and .i64 (Int.fdiv b (2^(min j (IntKind.bits .i64)))) 1:Int)==1
def bits(b:Int)(n:Nat):List Int:=((List.range n).filter (bit b)).map fun(j:Nat)=>(j:Int)
theorem wj(b:Int)(n:Nat):bits b (n+1)=bits b n++if bit b n then[(n:Int)]else[]:=by unfold bits;rw[List.range_succ,List.filter_append,List.map_append];grind
theorem oC(b:Int)(n:Nat):(bits b n).length≤n:=by unfold bits;grind
def gw(x:Rt)(a b:Int):bH:=if b<0∨b≥4294967296 then((0,1),x)else(((Sp.eE x.cs (a,bits b 32)).1,(Sp.eE x.cs (a,bits b 32)).2.1),{x with cs:=(Sp.eE x.cs (a,bits b 32)).2.2})
end Rx
theorem Ey(i:Pl)(q:Nat)(k a b c:Int)(x:Rt):pd ρ 101 i q k a b c x (Rx.gw x a b):=by
 refine Gl.Spec.of (fun Q w hh=>F.rt.Runtime.class.calls _ (k,a,b,c,()) hh) fun R=>aq fun b1=>iL ?_;unfold Rx.gw;refine ag (fun e=>?_) (fun e=>?_);·have e:=of_decide_eq_true e;rw[if_pos (.inl e)];exact rT
 have e1:=of_decide_eq_false e;refine iL<|ag (fun e=>?_) (fun e=>?_);·have e:=of_decide_eq_true e;rw[if_pos (.inr e)];exact rT
 have e2:=of_decide_eq_false e;rw[if_neg (fun g=>g.elim e1 e2)];refine Tr.cg 1<|aM (I:=fun m u M=>∃(j:Nat) (s:av),j≤32∧m=32-j∧u=(s,(j:Int),())∧s.n=(Rx.bits b j).length∧M=aw s 1 ((Rx.bits b j).map i64)::au b1 [i64 k,i64 a,i64 b,i64 c]::_) 32 ⟨0,_,ae,rfl,rfl,rfl,rfl⟩ ?_;rintro m _ _ ⟨j,s,hj,rfl,rfl,hs,rfl⟩ X hX;try simp only[c8,c9]
 have hbl:=Rx.oC b j;refine ag (fun hc=>?_) (fun hc=>?_)
 ·have hj':j<32:=by grind
  refine iL<|bm ae ?_;rw[bG (n:=(j:Int)+1)];have hbs:=Rx.wj b j;refine ag (fun e=>?_) (fun e=>?_);·rw[if_pos (show Rx.bit b j=true from e)]at hbs;refine dm bJ tk ae fun r hr=>hX _ _ _ ae ⟨j+1,r,ae,rfl,rfl,eV,by rw[hbs];rfl⟩
  ·rw[if_neg (by rw[show Rx.bit b j=false from e];simp),List.append_nil]at hbs;refine hX _ _ _ ae ⟨j+1,s,ae,rfl,rfl,by rw[hbs];exact hs,by rw[hbs];rfl⟩
 ·have hj':j=32:=by grind
  subst hj';refine eL.op tk fun qq=>db.op tk fun z hz=>aF.op tk fun ps pt=>aA (aK [au _ [i64 k,i64 a,i64 b,i64 c],au q [.pointer _],au i.p _,au _ [.pointer _,i64 x.bb],au _ [.pointer _,.slice _ _ z.c],au _ [.pointer _,.pointer _]] ar ?_);refine af (hP q 0 _ ?_);refine af (hP _ 0 _ ?_);refine af (hP _ 0 _ ?_);refine af (hP _ 0 _ ?_);refine af (hP _ 1 _ ?_);refine jL<|ai (Spec.own fun ρ1 hle r1=>GI pt x.cs a s (Rx.bits b 32) r1 ae) ar ?_;rintro _ _ ⟨_,⟨rfl,rfl⟩,rfl⟩;refine tD _ ?_;refine Tr.close ar (aF.cl)<|Tr.close ar (db.cl hz)<|tC (eL.cl) ?_;exact rT
abbrev mv(f:FuncId)(q:Nat):Value:= .func (.func f) #[.pointer (some ⟨q,0,none⟩)] #[]
abbrev lv(b1 b2:Nat):Value:= .func (.func 161) #[] #[.pointer (some ⟨b1,0,none⟩),.pointer (some ⟨b2,0,none⟩)]
def Rx.rX(q b1 b2 b3 b4:Nat):List (Int×Value):=
 [(1,mv 101 q),(2,mv 102 q),(3,lv b1 b2),(4,lv b3 b4),(5,mv 104 q),(6,mv 105 q),(7,mv 106 q),(8,mv 107 q),
  (9,mv 108 q),(10,mv 109 q),(11,mv 110 q),(12,mv 111 q),(13,mv 112 q),(14,mv 113 q),(15,mv 114 q),
  (16,mv 115 q),(17,mv 116 q),(18,mv 117 q),(19,mv 118 q),(20,mv 119 q),(21,mv 120 q)]
theorem CG(q:Nat)(kind:Int):Gl.Spec ρ Zp 103 [.pointer (some ⟨q,0,none⟩),i64 kind] [] (.one (.l .any))
  fun r M=>∃b1 b2:Nat,r=lv b1 b2∧M=[au b1 [.pointer (some ⟨q,0,none⟩)],au b2 [i64 kind]]:=by exact Gl.Spec.of (fun Q w h=>F.rt.Runtime.list.calls _ kind h) fun R=>aq fun b1=>aq fun b2=>rE _ ⟨b1,b2,rfl,rfl⟩
abbrev Mo(q b1 b2 b3 b4:Nat):List aD:=[au b1 [.pointer (some ⟨q,0,none⟩)],au b2 [i64 2],au b3 [.pointer (some ⟨q,0,none⟩)],au b4 [i64 3]]
theorem rP:Tryz.prog.underlying 96=some (.map 3 94):=by kernel_rfl
theorem rM:Tryz.prog.underlying 3=some (.int .i64):=by kernel_rfl
theorem xC:(Tryz.prog.info? 94).bind (·.zero)=some .nilFunc:=by kernel_rfl
theorem oo:zc Zp 36=[.int .i64 0,.int .i64 0]:=by kernel_rfl
theorem oc(q:Nat):Gl.Spec ρ Zp 41 [.pointer (some ⟨q,0,none⟩)] [] (.one (.l .map))
  fun r M=>∃b b1 b2 b3 b4:Nat,r=some b∧M=IM b (fun v:Value=>v) (Rx.rX q b1 b2 b3 b4)::Mo q b1 b2 b3 b4:=by
 refine Gl.Spec.of (fun Q w h=>F.rt.Runtime.handlers.calls _ h) fun R=>sU (fun v:Value=>v) fun b=>?_;iterate 2 apply ri (f:=fun v:Value=>v) rP rM rfl tk
 apply ai (CG q 2) ar;rintro _ _ ⟨b1,b2,rfl,rfl⟩;refine ri (f:=fun v:Value=>v) rP rM rfl tk<|ai (CG q 3) ar ?_;rintro _ _ ⟨b3,b4,rfl,rfl⟩;iterate 18 apply ri (f:=fun v:Value=>v) rP rM rfl tk
 simp only[lf,Int.reduceEq,↓reduceIte];exact rT ⟨b,b1,b2,b3,b4,rfl,rfl⟩
theorem EZ(q:Nat)(k a b c:Int)(hk:∀b1 b2 b3 b4,iy k (Rx.rX q b1 b2 b3 b4)=none):Gl.Spec ρ Zp 17 [.pointer (some ⟨q,0,none⟩),wW k a b c] [] G2
  fun r M=>r=(1,0,())∧M=[]:=by refine Gl.Spec.of (fun Q w hh=>F.rt.Runtime.Do.calls _ (k,a,b,c,()) hh) fun R=>aq fun b1=>aq fun b2=>?_;rw[oo];refine bF<|aA (aK [au _ [i64 k,i64 a,i64 b,i64 c]] ar ?_);refine jL<|ai (oc q) .nil ?_;rintro _ _ ⟨hb,c1,c2,c3,c4,rfl,rfl⟩;refine cK<|qN rP rM xC (fun _=>rfl) tk ?_;rw[hk];refine bT<|iT ?_;exact aN (x:=(_,_,())) [] rfl tk rfl<|rT
abbrev dt(n e:Int):RT G2:=(e,if e≠0 then 0 else n,())
theorem Spec.Cj{P:Program}{f:FuncId}{args:List Value}{A:List aD}{r:RK}{B:RT r→List aD→Prop}(h:Gl.Spec ρ P f args A r B):Gl.Spec ρ P f args [star A] r fun x M=>∃M',B x M'∧M=[star M']:=fun R w hw=>by apply (h R w (Sat.uT hw)).mono;rintro e w' ⟨x,M,rfl,hB,hs⟩;exact⟨x,[star M],rfl,⟨M,hB,rfl⟩,Sat.Bx hs⟩
theorem Spec.wK{P:Program}{f:FuncId}{args:List Value}{A:List aD}{r:RK}{B:RT r→List aD→Prop}(h:Gl.Spec ρ P f args [star A] r fun x M=>∃M',B x M'∧M=[star M']):Gl.Spec ρ P f args A r B:=fun R w hw=>by apply (h R w (Sat.Bx hw)).mono;rintro e w' ⟨x,_,rfl,⟨M,hB,rfl⟩,hs⟩;exact⟨x,M,rfl,hB,Sat.uT hs⟩
theorem jV{f:FuncId}{fn:Func}(hf:Tryz.prog.funcs[f]? =some fn)(hb:fn.body.isSome=true)(q:Nat)(k a b c:Int)(hk:∀b1 b2 b3 b4,iy k (Rx.rX q b1 b2 b3 b4)=some (mv f q)){A:List aD}{B:RT P2→List aD→Prop}
  (hs:Gl.Spec ρ Zp f [.pointer (some ⟨q,0,none⟩),wW k a b c] A P2 B):Gl.Spec ρ Zp 17 [.pointer (some ⟨q,0,none⟩),wW k a b c] A G2
  fun r M=>∃n e:Int,B (n,e,()) M∧r=dt n e:=by
 apply Spec.wK;replace hs:=Spec.Cj hs;refine Gl.Spec.of (fun Q w hh=>F.rt.Runtime.Do.calls _ (k,a,b,c,()) hh) fun R=>aq fun b1=>aq fun b2=>?_;rw[oo];refine bF<|aA (aK [au _ [i64 k,i64 a,i64 b,i64 c]] ar ?_);refine jL<|ai (oc q) .nil ?_;rintro _ _ ⟨hb',c1,c2,c3,c4,rfl,rfl⟩;refine cK<|qN rP rM xC (fun _=>rfl) tk ?_;rw[hk];refine bF<|iG ?_;refine qA hf hb hs ar ?_;rintro⟨n,e,⟨⟩⟩ _ ⟨M,hB,rfl⟩;refine ag (fun he=>?_) (fun he=>?_);·refine iT ?_;exact aN (x:=(e,_,())) [] rfl tk rfl<|rT ⟨M,⟨n,e,hB,eV⟩,rfl⟩
 ·refine iT ?_;exact aN (x:=(_,n,())) [] rfl tk rfl<|rT ⟨M,⟨n,e,hB,eV⟩,rfl⟩
theorem Dq{A B:aD}{M:List aD}{h:HP}(H:star [A,B,star M] h):star (A::B::M) h:=by
 have:star ([A,B]++[star M]) h:=H;obtain⟨h1,h2,hd,rfl,ha,hb⟩:=oh this;have h3:star M h2:=by
  obtain⟨g1,g2,gd,rfl,ga,gb⟩:=hb;have:(fun b=>(g1 b).or (g2 b))=g1:=by funext b;rw[gb b,Option.or_none]
  rw[this];exact ga
 exact iU ⟨h1,h2,hd,rfl,ha,h3⟩
theorem DU{A B:aD}{M:List aD}{h:HP}(H:star (A::B::M) h):star [A,B,star M] h:=by have:star ([A,B]++M) h:=H;obtain⟨h1,h2,hd,rfl,ha,hb⟩:=oh this;have h3:star [star M] h2:=⟨h2,fun _=>none,fun b=> .inr rfl,bu,hb,fun _=>rfl⟩;exact iU ⟨h1,h2,hd,rfl,ha,h3⟩
theorem KI(q:Nat)(k kind a b c:Int)(hk:(k=3∧kind=2)∨(k=4∧kind=3)){A:List aD}{B:RT P2→List aD→Prop}
  (hs:∀b1 b2:Nat,Gl.Spec ρ Zp 161 [wW k a b c,.pointer (some ⟨b1,0,none⟩),.pointer (some ⟨b2,0,none⟩)] [star (au b1 [.pointer (some ⟨q,0,none⟩)]::au b2 [i64 kind]::A)] P2 fun r M=>∃M',B r M'∧M=[star (au b1 [.pointer (some ⟨q,0,none⟩)]::au b2 [i64 kind]::M')]):
  Gl.Spec ρ Zp 17 [.pointer (some ⟨q,0,none⟩),wW k a b c] A G2 fun r M=>∃n e:Int,B (n,e,()) M∧r=dt n e:=by
 refine Spec.wK<|Gl.Spec.of (fun Q w hh=>F.rt.Runtime.Do.calls _ (k,a,b,c,()) hh) fun R=>aq fun b1=>aq fun b2=>?_;rw[oo];refine bF<|aA (aK [au _ [i64 k,i64 a,i64 b,i64 c]] ar ?_);refine jL<|ai (oc q) .nil ?_;rintro _ _ ⟨hb',c1,c2,c3,c4,rfl,rfl⟩;refine cK<|qN rP rM xC (fun _=>rfl) tk ?_;have go:∀(d1 d2:Nat) {LL L2:List aD},aI LL [au d1 [.pointer (some ⟨q,0,none⟩)],au d2 [i64 kind],star A,au b1 [i64 k,i64 a,i64 b,i64 c],au b2 [i64 0,i64 0]] L2→Gl.Ends L2 R→
   Tr ρ ρ LL (ld (.g [.int .i64,.int .i64,.int .i64,.int .i64]) (⟨b1,0,none⟩) fun(x7:LTs _)=>
    lu Zp (lv d1 d2) [.agg #[.int .i64 x7.1,.int .i64 x7.2.1,.int .i64 x7.2.2.1,.int .i64 x7.2.2.2.1]] (.many [.l (.int .i64),.l (.int .i64)]) fun(r8:KTs _)=>
    br ((r8.2.1:Int) != 0)
     (st (⟨b2,0,none⟩) [.int .i64 r8.2.1,.int .i64 0]<|ld (.g [.int .i64,.int .i64]) (⟨b2,0,none⟩) fun(x9:LTs _)=>ret (.agg #[.int .i64 x9.1,.int .i64 x9.2.1]))
     (st (⟨b2,0,none⟩) [.int .i64 0,.int .i64 r8.1]<|ld (.g [.int .i64,.int .i64]) (⟨b2,0,none⟩) fun(x9:LTs _)=>ret (.agg #[.int .i64 x9.1,.int .i64 x9.2.1])))
    (SP G2 (fun r M=>∃M',(∃n e:Int,B (n,e,()) M'∧r=dt n e)∧M=[star M']) R):=fun d1 d2 LL L2 t en=>by
  refine Tr.perm t.perm<|iG<|Tr.close (A:=star _) ar (fun h H=>Dq H) ?_;refine qA Tryz.func161 (by kernel_rfl) (hs _ _) ar ?_;rintro⟨n,e,⟨⟩⟩ _ ⟨M,hB,rfl⟩;refine Tr.imp (A':=star [au _ [.pointer _],au _ [i64 kind],star M]) tk (fun h H=>DU H)<|Tr.FA tk<|ag (fun he=>?_) (fun he=>?_);·refine iT ?_;exact aN (x:=(e,_,())) [] rfl tk rfl<|ax rfl ⟨M,⟨n,e,hB,eV⟩,rfl⟩ ar (.skip (.skip (.skip (.skip en))))
  ·refine iT ?_;exact aN (x:=(_,n,())) [] rfl tk rfl<|ax rfl ⟨M,⟨n,e,hB,eV⟩,rfl⟩ ar (.skip (.skip (.skip (.skip en))))
 rcases hk with ⟨rfl,rfl⟩|⟨rfl,rfl⟩;·exact bF<|go _ _ ar bE
 ·exact bF<|go _ _ ar bE
namespace Rx
variable{x:Rt}{N M:Int}
theorem pD{h:Int}{f:Int→bH}(I:x.Inv M)(hf:∀a,(f a).2.Inv M):(re x h f).2.Inv M:=by unfold re;grind
theorem Ci{h:Int}{f:Int→bH}(I:x.Inv M)(hf:∀a,(f a).2.Inv M):(D7 x h f).2.Inv M:=by unfold D7;grind
theorem Ct(I:x.Inv N)(a b:Int):(get x a b).2.Inv N:=by
 refine pD I fun bM=>?_;split;·exact I
 ·exact lj I _
theorem nt{a k:Int}(h:(jC x a k).2.2=0):Qu.bR x.S a=false:=by unfold jC at h;unfold Qu.bR;grind
theorem B7(I:x.Inv N)(a b c:Int):(set x a b c).2.Inv N:=by
 refine pD I fun bM=>Ci I fun to=>?_;split;·exact I
 ·rename_i h;split;·exact I
  ·exact{I with w:=I.w.put (.inl (nt (by simpa using h)))}
theorem Ck(I:x.Inv N)(a b c:Int):(put x a b c).2.Inv N:=by
 refine pD I fun bM=>?_;split;·exact I
 ·rename_i h;split;·exact I
  ·exact{I with w:=I.w.put (.inl (nt (by simpa using h)))}
theorem y9(I:x.Inv N)(hN:0≤N)(a:Int):(drop x a).2.Inv (N+1):={I.le (M:=N+1) (by omega)with h:=I.h.drop hN a}
theorem uw{ro:List Int}{i a:Int}:(cO ro i a).length=ro.length:=by unfold cO;grind
theorem zN(I:x.Inv N)(a b:Int):(root x a b).2.Inv N:=Ci I fun bM=>{I with ro:=(uw ..).trans I.ro}
theorem yI(I:x.Inv N)(a:Int):(take x a).2.Inv N:=by
 unfold take;split;·exact I
 ·exact lj I _
theorem qM(I:x.Inv N)(a:Int):(aC x a).2.Inv N:=by
 refine pD I fun bM=>?_;have J:Rt.Inv N {x with S:=(Rf.aC x.S bM x.ck).2}:={I with w:=I.w.aC bM x.ck I.ck.2};cases Ob.head x.S bM with
 |none=>exact I
 |some hd=>
  dsimp only;split;·exact I
  ·split;·exact I
   ·split;·exact I
    ·split;·exact I
     ·split;·exact J
      ·exact lj J _
theorem vU(I:x.Inv N)(a:Int):(clear x a).2.Inv N:=pD I fun bM=>{I with w:=I.w.clear [bM]}
theorem sx(I:x.Inv N)(a:Int):(enqueue x a).2.Inv N:=pD I fun bM=>{I with w:=I.w.dJ bM}
theorem zM(I:x.Inv N):(lO x).2.Inv N:=by
 have h:=I.w.q.sZ;unfold lO;by_cases e:x.rows.length=8;·simp_all
 ·simp only[if_neg e];exact{I with w:=I.w.open_ ae}
theorem zj(I:x.Inv N)(a:Int):(jl x a).2.Inv N:=by
 have J:Rt.Inv N {x with S:=Qu.dq x.S x.rows a,rows:=Qu.fK x.rows a}:={I with w:=I.w.jl a};unfold jl;split;·exact I
 ·split;·exact I
  ·split;·exact I
   ·split;·exact J
    ·exact lj J _
theorem vT(I:x.Inv N)(a:Int):(final x a).2.Inv N:=pD I fun bM=>{I with w:=I.w.await bM}
theorem Ca(I:x.Inv N)(a b c:Int):(run x a b c).2.Inv N:=by
 have J:Rt.Inv N {x with pe:=Fn.eX x.pe a}:={I with w:=I.w.take a};unfold run;split;·exact I
 ·split;·exact I
  ·split;·exact I
   ·split;·exact J
    ·split;·exact{J with ro:=(uw ..).trans I.ro}
     ·split;·exact lj J _
      ·exact J
theorem F6{c k:Int}(hc:c<9223372036854775808)(hk:k<9223372036854775808):0≤Sf.later c k∧Sf.later c k<9223372036854775808:=by obtain⟨c0,c1⟩:=iK hc;obtain⟨k0,k1⟩:=iK hk;unfold Sf.later;omega
theorem yR(I:x.Inv N){a:Int}(ha:a<9223372036854775808):(tick x a).2.Inv N:=by
 unfold tick;split;·exact I
 ·exact{I with ck:=F6 I.ck.2 ha}
theorem wI(I:x.Inv N)(a:Int):(count x a).2.Inv N:=by unfold count;split<;>exact I
end Rx
theorem EF(pg ba stack:Int)(h:(1≤pg∧pg≤256)∧0≤ba∧(1≤stack∧stack≤4096)):Gl.Spec ρ Zp 11 [.agg #[i64 pg,i64 ba,i64 stack]] [] PE
  fun r M=>∃(i:Pl) (q:Nat),r=(some ⟨q,0,none⟩,0,())∧M=i.Q q (Rt.new pg ba stack):=by refine Gl.Spec.of (fun Q w h=>F.rt.gB.calls (pg,ba,stack,()) h) fun R=>aq fun b=>iG ?_;refine ai (KN pg ba stack h) ar ?_;rintro _ _ ⟨i,rfl,rfl⟩;refine ak rfl (aq fun q=>?_);exact rT ⟨i,q,rfl,rfl⟩
theorem sB(i:Pl)(q:Nat)(x:Rt):Gl.Spec ρ Zp 15 [.pointer (some ⟨q,0,none⟩)] (i.Q q x) RB fun r M=>r=true∧M=i.Q q x:=by exact Gl.Spec.of (fun Q w h=>F.cp.Whole.calls _ h) fun R=>bT<|af<|iL<|cE (zg i x)<|rT
abbrev yj(ρ:FR)(i:Pl)(q:Nat)(k a b c:Int)(x:Rt)(y:bH):Prop:=
 Gl.Spec ρ Zp 17 [.pointer (some ⟨q,0,none⟩),wW k a b c] (i.Q q x) G2 fun r M=>r=dt y.1.1 y.1.2∧M=i.Q q y.2
abbrev BA(ρ:FR)(i:Pl)(q:Nat)(k a b c:Int)(x:Rt)(y:bH→Prop):Prop:=
 Gl.Spec ρ Zp 17 [.pointer (some ⟨q,0,none⟩),wW k a b c] (i.Q q x) G2 fun r M=>∃z,y z∧r=dt z.1.1 z.1.2∧M=i.Q q z.2
theorem Af{i:Pl}{q:Nat}{k a b c:Int}{x:Rt}{y:bH}(h:Gl.Spec ρ Zp 17 [.pointer (some ⟨q,0,none⟩),wW k a b c] (i.Q q x) G2 fun r M=>∃n e:Int,((n,e,())=((y.1.1,y.1.2,()):RT P2)∧M=i.Q q y.2)∧r=dt n e):yj ρ i q k a b c x y:=
 Spec.post h fun r M hh=>by grind
theorem Ki{i:Pl}{q:Nat}{k a b c N:Int}{x:Rt}{Y:bH→Prop}(h:Gl.Spec ρ Zp 17 [.pointer (some ⟨q,0,none⟩),wW k a b c] (i.Q q x) G2 fun r M=>∃n e:Int,(∃y:bH,Y y∧y.2.Inv N∧(n,e,())=((y.1.1,y.1.2,()):RT P2)∧M=i.Q q y.2)∧r=dt n e):BA ρ i q k a b c x fun y=>Y y∧y.2.Inv N:=
 Spec.post h fun r M hh=>by grind
variable(i:Pl)(q:Nat)(x:Rt){N:Int}(I:x.Inv N)(a b c:Int)
include I
theorem G8:yj ρ i q 1 a b c x (Rx.gw x a b):=by have _:=I;exact Af (jV Tryz.func101 (by kernel_rfl) q 1 a b c (fun _ _ _ _=>rfl) (Ey i q 1 a b c x))
theorem FU(hN:N+10<2^49):BA ρ i q 2 a b c x fun y=>Rx.fm x a y∧y.2.Inv (N+10):=Ki (jV Tryz.func102 (by kernel_rfl) q 2 a b c (fun _ _ _ _=>rfl) (FJ i q 2 a b c x I hN))
theorem K1(hN:N<2^50):yj ρ i q 5 a b c x (Rx.get x a b):=Af (jV Tryz.func104 (by kernel_rfl) q 5 a b c (fun _ _ _ _=>rfl) (JZ i q 5 a b c x (I.ok hN)))
theorem KG(hN:N<2^50):yj ρ i q 6 a b c x (Rx.set x a b c):=Af (jV Tryz.func105 (by kernel_rfl) q 6 a b c (fun _ _ _ _=>rfl) (Kg i q 6 a b c x (I.ok hN)))
theorem Lj(hN:N<2^50):yj ρ i q 7 a b c x (Rx.put x a b c):=Af (jV Tryz.func106 (by kernel_rfl) q 7 a b c (fun _ _ _ _=>rfl) (La i q 7 a b c x (I.ok hN)))
theorem IG(hN:N<2^50):yj ρ i q 8 a b c x (Rx.drop x a):=Af (jV Tryz.func107 (by kernel_rfl) q 8 a b c (fun _ _ _ _=>rfl) (JB i q 8 a b c x (I.ok hN)))
theorem Je(hN:N<2^50):yj ρ i q 9 a b c x (Rx.root x a b):=Af (jV Tryz.func108 (by kernel_rfl) q 9 a b c (fun _ _ _ _=>rfl) (Jd i q 9 a b c x (I.ok hN)))
theorem HS(hN:N<2^50):yj ρ i q 10 a b c x (Rx.take x a):=Af (jV Tryz.func109 (by kernel_rfl) q 10 a b c (fun _ _ _ _=>rfl) (HM i q 10 a b c x (I.ok hN)))
theorem ES(hN:N+10<2^49):BA ρ i q 11 a b c x fun y=>Rx.gq x a b c y∧y.2.Inv (N+10):=Ki (jV Tryz.func110 (by kernel_rfl) q 11 a b c (fun _ _ _ _=>rfl) (E7 i q 11 a b c x I hN))
theorem zO(hN:N<2^50):yj ρ i q 12 a b c x (Rx.aC x a):=Af (jV Tryz.func111 (by kernel_rfl) q 12 a b c (fun _ _ _ _=>rfl) (zH i q 12 a b c x (I.ok hN)))
theorem G3(hN:N<2^50):yj ρ i q 13 a b c x (Rx.clear x a):=Af (jV Tryz.func112 (by kernel_rfl) q 13 a b c (fun _ _ _ _=>rfl) (GU i q 13 a b c x (I.ok hN)))
theorem AU(hN:N<2^50):yj ρ i q 14 a b c x (Rx.enqueue x a):=Af (jV Tryz.func113 (by kernel_rfl) q 14 a b c (fun _ _ _ _=>rfl) (AJ i q 14 a b c x (I.ok hN) I.w.r.qb))
theorem Jb(hN:N<2^50):yj ρ i q 15 a b c x (Rx.lO x):=Af (jV Tryz.func114 (by kernel_rfl) q 15 a b c (fun _ _ _ _=>rfl) (IC i q 15 a b c x (I.ok hN)))
theorem Ih(hN:N<2^50):yj ρ i q 16 a b c x (Rx.jl x a):=Af (jV Tryz.func115 (by kernel_rfl) q 16 a b c (fun _ _ _ _=>rfl) (Ii i q 16 a b c x (I.ok hN)))
theorem Ez(hN:N<2^50):yj ρ i q 17 a b c x (Rx.final x a):=Af (jV Tryz.func116 (by kernel_rfl) q 17 a b c (fun _ _ _ _=>rfl) (Ei i q 17 a b c x (I.ok hN)))
theorem Lg(hN:N<2^50):yj ρ i q 18 a b c x (Rx.run x a b c):=Af (jV Tryz.func117 (by kernel_rfl) q 18 a b c (fun _ _ _ _=>rfl) (Lc i q 18 a b c x (I.ok hN)))
theorem A5(hN:N+1<2^50):BA ρ i q 19 a b c x fun y=>Rx.cJ x a y:=Spec.post (jV Tryz.func118 (by kernel_rfl) q 19 a b c (fun _ _ _ _=>rfl) (AN i q 19 a b c x I hN)) fun r M hh=>by grind
theorem Jg(hN:N<2^50)(ha:a<9223372036854775808):yj ρ i q 20 a b c x (Rx.tick x a):=Af (jV Tryz.func119 (by kernel_rfl) q 20 a b c (fun _ _ _ _=>rfl) (HU i q 20 a b c x (I.ok hN) I.ck.2 ha))
theorem FQ(hN:N<2^50):yj ρ i q 21 a b c x (Rx.count x a):=Af (jV Tryz.func120 (by kernel_rfl) q 21 a b c (fun _ _ _ _=>rfl) (Fs i q 21 a b c x (I.ok hN)))
theorem xU(hN:N+10<2^49){k kind:Int}(hk:(k=3∧kind=2)∨(k=4∧kind=3)):BA ρ i q k a b c x fun y=>Rx.dQ x kind a y∧y.2.Inv (N+10):=
 Ki (KI (B:=fun r M=>∃y:bH,Rx.dQ x kind a y∧y.2.Inv (N+10)∧r=(y.1.1,y.1.2,())∧M=i.Q q y.2) q k kind a b c hk fun b1 b2=>Spec.post (Spec.Cj (Hr i q b1 b2 kind k a b c x (by omega) I hN)) fun r M hh=>by grind)
end
section
open Go Go.Gl
variable{ρ0 ρ:FR}{L L':List aD}{Post:Value→List aD→Prop}{T:Tree}
namespace Hn
def Hs(l:List Slot):List Slot:=l++List.replicate (512-l.length) (0,0)
theorem K9{l:List Slot}(h:l.length≤512):(Hs l).length=512:=by unfold Hs;grind
theorem FG(l:List Slot)(t:Nat):bM (Hs l) t=l.getD t (0,0):=by unfold bM Hs;grind
theorem I8{l:List Slot}(h:l.length<512)(e:Slot):(Hs l).set l.length e=Hs (l++[e]):=by unfold Hs;obtain⟨n,hn⟩:∃n,512-l.length=n+1:=⟨512-l.length-1,ae⟩;grind
theorem xx{l:List Slot}(h:∀e∈l,e.2≠0)(hl:l.length<512):free (Hs l)=some l.length:=by
 refine xP (by rw[K9 ae];exact hl) ?_ fun j hj=>?_;·rw[FG,List.getD_eq_getElem?_getD,List.getElem?_eq_none (Nat.le_refl _)];rfl
 ·rw[FG,List.getD_eq_getElem?_getD,List.getElem?_eq_getElem hj];grind
theorem Jy{l:List Slot}(h:∀e∈l,e.2≠0)(hl:l.length<512){a:Int}(ha:0<a):iD (Hs l) a=(((l.length:Nat):Int)+512,0)∧gH (Hs l) a=Hs (l++[(0,a)]):=by
 have hf:=xx h hl;have h0:bM (Hs l) l.length=(0,0):=by rw[FG,List.getD_eq_getElem?_getD,List.getElem?_eq_none (Nat.le_refl _)];rfl
 unfold iD gH told;rw[if_neg ae,if_neg ae,hf];dsimp only;rw[h0,I8 hl];exact⟨rfl,rfl⟩
theorem J0:List.replicate 512 (0,0)=Hs []:=rfl
end Hn
namespace Rx
theorem Is{mk:Rt→bH}{x:Rt}{y:bH}(h:dv mk x y)(hf:Hn.free x.hs≠none)(he:(mk x).1.2=0):y=(iE (mk x).2 (mk x).1.1,eD (mk x).2 (mk x).1.1):=by
 unfold dv at h;rw[if_neg hf]at h;obtain⟨z,hz,rfl⟩:=h;rcases hz with ⟨_,rfl⟩|⟨h3,_⟩;·grind
 omega
theorem Gz{x:Rt}{l:List Hn.Slot}(hx:x.hs=Hn.Hs l)(h:∀e∈l,e.2≠0)(hl:l.length<512){a:Int}(ha:0<a):iE x a=(((l.length:Nat):Int)+512,0)∧eD x a={x with hs:=Hn.Hs (l++[(0,a)])}:=by
 obtain⟨h1,h2⟩:=Hn.Jy h hl ha;have ha0:a≠0:=by omega
 unfold iE eD;rw[if_neg ha0,if_neg ha0,hx,if_neg (by rw[Hn.xx h hl];simp),h1,h2];exact⟨rfl,rfl⟩
variable{x:Rt}{os:List pX}{o:pX}{h k v:Int}
end Rx
section
variable(i:Pl)(q:Nat){N:Int}{cs:List aX}{rows:List (List Int)}{bb:Int}{S:aJ}{l:List Hn.Slot}{ro wa pe:List Int}{ck rn:Int}{os:List pX}
end
theorem L7:∃x0:Rt,Rt.new 2 0 1=x0∧x0.Inv 0∧(Rx.mk ⟨3,0,3,false⟩ x0).1=(64,0)∧x0.hs=Hn.Hs []:=⟨_,rfl,Rt.Inv.new (by decide) (by decide),by kernel_rfl,Hn.J0⟩
theorem lW:Gl.Spec ρ Zp 14 [] [] RB fun r M=>r=true∧M=[]:=by
 refine Gl.Spec.of (fun Q w h=>F.cp.EG.calls h) fun R=>?_;obtain⟨x0,e0,I,hm,hhs⟩:=L7;refine ai (EF 2 0 1 bd) .nil ?_;rintro _ _ ⟨i,q,rfl,rfl⟩;rw[e0];refine cE (sB i q _)<|bF ?_;iterate 1 apply cE (qH _);try simp only[c8,c9]
 refine bF<|cE (EZ q 0 0 0 0 (fun _ _ _ _=>rfl))<|ai (xU i q _ I 3 0 0 bd (.inr ⟨rfl,rfl⟩)) ar ?_;rintro _ _ ⟨y,⟨hy,_⟩,rfl,rfl⟩;have hf:Hn.free x0.hs≠none:=by rw[hhs,Hn.xx bu bd];simp
 have hy:=Rx.Is hy hf (congrArg Prod.snd hm);have h1:(Rx.mk ⟨3,0,3,false⟩ x0).1.1=64:=congrArg Prod.fst hm;rw[h1]at hy;obtain⟨g1,g2⟩:=Rx.Gz (x:=(Rx.mk ⟨3,0,3,false⟩ x0).2) hhs bu bd (a:=64) bd;rw[g1,g2]at hy;subst hy;refine aq fun b6=>aq fun b7=>?_;rw[oo];refine iT ?_;refine iT ?_;apply lI _ 0 1;iterate 1 apply cE (qH _);try simp only[c8,c9]
 refine bT<|lI _ 0 0 ?_;iterate 1 apply cE (qH _);try simp only[c8,c9]
 exact bT<|lI _ 1 512<|rT
def pq(S:aJ)(v:Int):Prop:=v=0∨Mk.obj S v
theorem pq.mono{S S':aJ}{v:Int}(H:pq S v)(h:Mk.obj S v→Mk.obj S' v):pq S' v:=H.imp_right h
theorem pq.cT{S S':aJ}{v:Int}(H:pq S v)(h:∀b,Ob.head S' b=Ob.head S b):pq S' v:=H.mono fun g=>by unfold Mk.obj;rw[h];exact g
theorem pq.pos{S:aJ}{cs:List aX}(hw:aY S cs){v:Int}(H:pq S v):0≤v:=by
 rcases H with rfl|h;·exact Int.le_refl 0
 ·unfold Mk.obj at h;cases hh:Ob.head S v with
  |none=>rw[hh]at h;cases h
  |some hd=>obtain⟨n,w,e,_⟩:=Ob.bU hw hh;omega
def Ad(S:aJ)(cs:List aX)(a j:Int):Prop:=j∈Ob.refs S cs a∨(j=0∧Qu.bR S a=true)
theorem Bk{S S':aJ}{cs:List aX}{a:Int}(h:Ob.head S' a=Ob.head S a):Ob.refs S' cs a=Ob.refs S cs a:=by unfold Ob.refs;rw[h]
theorem wH{S S':aJ}{a:Int}(h:Ob.head S' a=Ob.head S a):Qu.bR S' a=Qu.bR S a:=by unfold Qu.bR;rw[h]
theorem Ad.cT{S S':aJ}{cs:List aX}{a j:Int}(h:Ob.head S' a=Ob.head S a):Ad S' cs a j↔Ad S cs a j:=by unfold Ad;rw[Bk h,wH h]
theorem zY{S:aJ}{cs:List aX}{a:Int}(h:Qu.bR S a=true):Ob.refs S cs a=[2]:=by obtain⟨hd,hh,hk⟩:=bx h;unfold Ob.refs;grind
theorem qL{S:aJ}{cs:List aX}{a j:Int}(h:Qu.bR S a=true):Ad S cs a j↔(j=2∨j=0):=by unfold Ad;rw[zY h,List.mem_singleton];simp[h]
theorem lT(S:aJ)(b j:Int):(∃hd,Ob.head S b=some hd∧0≤j∧j<hd.n)∨(Ob.get S b j).1=0:=by
 cases hb:Ob.head S b with
 |none=>right;unfold Ob.get Ob.fieldAt;rw[hb];rfl
 |some hd=>
  by_cases h:j<0∨j≥hd.n
  ·right;have e:Ob.fieldAt S b j=(0,1):=by unfold Ob.fieldAt;grind
   unfold Ob.get;rw[e];rfl
  grind
def Sd(S:aJ)(cs:List aX):Prop:=∀a j,Ad S cs a j→pq S (Ob.get S a j).1
namespace Sd
variable{S S':aJ}{cs:List aX}
theorem put(hw:aY S cs)(H:Sd S cs){a i x:Int}(hx:pq S x∨¬Ad S cs a i):Sd (Ob.put S a i x).2 cs:=fun b j hl=>by
 have hh:∀b,Ob.head (Ob.put S a i x).2 b=Ob.head S b:=fun b=>cm hw b;rw[Ad.cT (hh b)]at hl;rcases lT (Ob.put S a i x).2 b j with ⟨hd,h1,j0,j1⟩|h0
 ·rw[hh]at h1;rw[kV hw h1 j0 j1];split
  ·rcases hx with hx|hx;·exact hx.cT hh
   grind
  ·exact(H b j hl).cT hh
 ·rw[h0];exact .inl rfl
theorem iu(l:List Int):∀{S:aJ},aY S cs→Sd S cs→Sd (Rf.iu S l) cs:=by
 induction l with
 |nil=>exact fun _ h=>h
 |cons a l ih=>exact fun hw h=>ih (hw.put a 0 0) (h.put hw (.inl (.inl rfl)))
theorem clear(hw:aY S cs)(H:Sd S cs)(l:List Int):Sd (Rf.clear S l).2 cs:=by
 unfold Rf.clear;split;·exact H.iu l hw
 ·exact H
theorem Jr{a:Int}(h:Qu.bR S a=true):Mk.obj S a:=by obtain⟨hd,hh,_⟩:=bx h;unfold Mk.obj;rw[hh];rfl
theorem push(hw:aY S cs)(H:Sd S cs)(rows:List (List Int))(i a:Int):Sd (Qu.bP S rows i a) cs:=by
 unfold Qu.bP;split
 ·rename_i h;rw[Bool.and_eq_true]at h;have h1:=H.put hw (a:=a) (i:=2) (.inl (.inl rfl));split;·exact h1
  ·exact h1.put (hw.put _ _ _) (.inl (.inr (by unfold Mk.obj;rw[cm hw];exact Jr h.2)))
 ·exact H
theorem dJ(hw:aY S cs)(H:Sd S cs)(rows:List (List Int))(a:Int):Sd (Rf.dJ S rows a).2.1 cs:=by
 have hw1:=hw.put a 0 0;have h1:Sd (Ob.put S a 0 0).2 cs:=H.put hw (.inl (.inl rfl));unfold Rf.dJ;split
 ·rename_i hr;split;·exact h1
  ·split;·exact h1.push hw1 _ _ _
   ·refine(h1.push hw1 _ _ _).put (mQ hw1 _ _ _) (.inr fun g=>?_);rw[qL (by rw[wH (nc hw1 _ _ _ _),cQ hw];exact hr)]at g;omega
 ·exact H
theorem jl(hw:aY S cs)(H:Sd S cs)(rows:List (List Int))(i:Int):Sd (Qu.dq S rows i) cs:=by
 unfold Qu.dq;split;·exact H.put hw (.inl (.inl rfl))
 ·exact H
theorem aC(hw:aY S cs)(H:Sd S cs)(a t:Int):Sd (Rf.aC S a t).2 cs:=by
 unfold Rf.aC;split;·exact H
 ·rename_i h0;split
  ·refine H.put hw (.inr fun g=>?_);have hr:Qu.bR S a=true:=by
    cases e:Qu.bR S a with
    |true=>rfl
    |false=>exact absurd (.inl (by rw[Rf.uh,e];decide)) h0
   rw[qL hr]at g;omega
  ·exact H
theorem make(hw:aY S cs)(H:Sd S cs)(h:Hd):Sd (Ob.make S cs h).2.2 cs:=by
 by_cases h0:(Ob.make S cs h).2.1=0
 ·intro b j hl;rcases lT (Ob.make S cs h).2.2 b j with ⟨hd,h1,j0,j1⟩|e
  ·rcases Wl.mA hw h0 h1 with ⟨e1,e2⟩|⟨e1,e2⟩;·subst e2;rw[e1,Ob.o4 hw h0 j0 j1];exact .inl rfl
   ·obtain⟨k1,_,k3⟩:=Ob.eU hw h0 e2;rw[k3 j j0 j1];refine(H b j ((Ad.cT (k1.trans e2.symm)).mp hl)).mono fun g=>?_;unfold Mk.obj at g⊢;cases hv:Ob.head S (Ob.get S b j).1 with
    |none=>rw[hv]at g;cases g
    |some hv'=>rw[(Ob.eU hw h0 hv).1];rfl
  ·rw[e];exact .inl rfl
 ·rw[(Wl.ky h0).1];exact H
theorem pC(S:aJ)(a b:Int):Mk.obj (Ob.final S a).2 b↔Mk.obj S b:=by
 unfold Ob.final;split;·exact Iff.rfl
 ·split;·exact Iff.rfl
  ·split;·exact Iff.rfl
   ·unfold Mk.obj Ob.head;rw[kp bu];grind
theorem vD{S:aJ}{a:Int}(h:(Ob.final S a).1≠0):(Ob.final S a).2=S:=by unfold Ob.final at h⊢;grind
theorem oJ(hw:aY S cs){a b:Int}{hd':Hd}(h:Ob.head (Ob.final S a).2 b=some hd'):∃hd,Ob.head S b=some hd∧hd'.k=hd.k∧hd'.c=hd.c∧hd'.n=hd.n∧(b≠a→hd'=hd):=by
 by_cases h0:(Ob.final S a).1=0
 ·cases hh:Ob.head S a with
  |none=>unfold Ob.final at h0;rw[hh]at h0;cases h0
  |some g=>
   have hk:g.k≠4:=fun hk=>by unfold Ob.final at h0;grind
   have hf:g.f=false:=by
    cases hf:g.f with
    |false=>rfl
    |true=>unfold Ob.final at h0;grind
   obtain⟨_,k2,k3,_⟩:=Ob.lJ hw hh hk hf;by_cases e:b=a;·grind
   ·have ho:=(pC S a b).mp (by unfold Mk.obj;rw[h];rfl);unfold Mk.obj at ho;cases hb:Ob.head S b with
    |none=>rw[hb]at ho;cases ho
    |some hd=>grind
 ·rw[vD h0]at h;grind
theorem oS(hw:aY S cs){a b j:Int}{hd:Hd}(h:Ob.head S b=some hd)(j0:0≤j)(j1:j<hd.n):Ob.get (Ob.final S a).2 b j=Ob.get S b j:=by
 by_cases h0:(Ob.final S a).1=0
 ·cases hh:Ob.head S a with
  |none=>unfold Ob.final at h0;rw[hh]at h0;cases h0
  |some g=>
   have hk:g.k≠4:=fun hk=>by unfold Ob.final at h0;grind
   have hf:g.f=false:=by
    cases hf:g.f with
    |false=>rfl
    |true=>unfold Ob.final at h0;grind
   exact(Ob.lJ hw hh hk hf).2.2.2 _ _ _ h j0 j1
 ·rw[vD h0]
theorem final(hw:aY S cs)(H:Sd S cs)(a:Int):Sd (Ob.final S a).2 cs:=fun b j hl=>by
 rcases lT (Ob.final S a).2 b j with ⟨hd',h1,j0,j1⟩|e;·obtain⟨hd,h2,e1,e2,e3,_⟩:=oJ hw h1;rw[oS hw h2 j0 ae];refine(H b j ?_).mono (pC S a _).mpr;unfold Ad Ob.refs Qu.bR at hl⊢;grind
 ·rw[e];exact .inl rfl
theorem ja(hw:aY S cs)(H:Sd S cs){a o q t n:Int}(hr:Qu.bR S a=true)(ho:pq S o):Sd (Rf.ja S a 0 [o,q,0,t,n]) cs:=by
 have hw1:=hw.put a (0:Nat) o;have hw2:=hw1.put a (1:Nat) q;have hw3:=hw2.put a (2:Nat) 0;have hw4:=hw3.put a (3:Nat) t;have r1:Qu.bR (Ob.put S a (0:Nat) o).2 a=true:=by rw[cQ hw];exact hr
 have r2:Qu.bR (Ob.put (Ob.put S a (0:Nat) o).2 a (1:Nat) q).2 a=true:=by rw[cQ hw1];exact r1
 have r3:Qu.bR (Ob.put (Ob.put (Ob.put S a (0:Nat) o).2 a (1:Nat) q).2 a (2:Nat) 0).2 a=true:=by rw[cQ hw2];exact r2
 have r4:Qu.bR (Ob.put (Ob.put (Ob.put (Ob.put S a (0:Nat) o).2 a (1:Nat) q).2 a (2:Nat) 0).2 a (3:Nat) t).2 a=true:=by rw[cQ hw3];exact r3
 have h1:=H.put hw (a:=a) (i:=(0:Nat)) (.inl ho);have h2:=h1.put hw1 (i:=(1:Nat)) (x:=q) (.inr fun g=>by rw[qL r1]at g;omega);have h3:=h2.put hw2 (a:=a) (i:=(2:Nat)) (.inl (.inl rfl));have h4:=h3.put hw3 (i:=(3:Nat)) (x:=t) (.inr fun g=>by rw[qL r3]at g;omega);exact h4.put hw4 (.inr fun g=>by rw[qL r4]at g;omega)
theorem bS(hw:aY S cs)(H:Sd S cs)(rows:List (List Int))(n c o q t:Int):Sd (Rf.bS S cs rows n c o q t).2.2.1 cs:=by
 unfold Rf.bS;split;·exact H
 ·rename_i hm;split;·exact H.make hw _
  ·rename_i h0;have h0:(Ob.make S cs ⟨4,c,5,false⟩).2.1=0:=by simpa using h0
   have hh:=Ob.jE hw h0;refine(H.make hw _).ja (hw.make _) (by unfold Qu.bR;rw[hh];rfl) (.inr ?_);have ho:(Ob.head S o).isNone=false:=by
    cases e:(Ob.head S o).isNone with
    |false=>rfl
    |true=>refine absurd ?_ hm;unfold Rf.may;grind
   unfold Mk.obj;cases hv:Ob.head S o with
   |none=>rw[hv]at ho;cases ho
   |some hv'=>rw[(Ob.eU hw h0 hv).1];rfl
theorem eE(hk:Kn S cs)(H:Sd S cs)(c:aX):Sd S (Sp.eE cs c).2.2:=fun a j hl=>H a j<|by
 rcases hl with hl|hl
 ·left;unfold Ob.refs at hl⊢;cases hh:Ob.head S a with
  |none=>rw[hh]at hl;exact hl
  |some h=>
   by_cases e:h.k=1
   ·obtain⟨d,hd⟩:=hk a h hh e;obtain⟨g1,g2,g3⟩:=vV hd;have:Sp.iI (Sp.eE cs c).2.2 h.c=some d:=by
     unfold Sp.eE;split;·exact hd
     split;·exact hd
     ·unfold Sp.iI at hd⊢;rw[if_pos ⟨g1,by rw[List.length_append];omega⟩,List.getElem?_append_left ae];exact g3
    grind
   grind
 ·exact .inr hl
end Sd
structure Rt.rh(x:Rt):Prop where
 jC:Sd x.S x.cs
 hs:∀t,pq x.S (Hn.bM x.hs t).2
 ro:∀v∈x.ro,pq x.S v
theorem Kc{S:aJ}{cs:List aX}(hw:aY S cs){x:pS}{ro fs:List Int}{l:List da}{m2 m3:List Bool}(hC:kl S cs x ro fs l m2 m3){b:Int}(hr:Qu.bR S b=true)(ho:Mk.obj S (Ob.get S b 0).1)(hb:b∉aU S m2 m3 l):Sp.has m3 (Ob.get S b 0).1=true:=by
 obtain⟨hd,hh,hk⟩:=bx hr;have hc:=Ob.q7 hw hh;have hc:1≤hd.c∧hd.c≤3:=by unfold Sp.fk at hc;grind
 cases e:Sp.has m3 (Ob.get S b 0).1 with
 |true=>rfl
 |false=>
  refine absurd ?_ hb;unfold aU;rw[List.mem_append];by_cases h3:hd.c=3;·right;exact(qk hw hC.perm).mpr ⟨hd,hh,hk,by rw[h3];simp,ho,by rw[e];simp⟩
  ·left;refine(qk hw hC.perm).mpr ⟨hd,hh,hk,?_,ho,fun g=>?_⟩;·grind
   ·have:=(hC.Dk _).mpr (.inl g);grind
theorem xi{S:aJ}{cs:List aX}(hw:aY S cs){x:pS}{ro fs:List Int}{l:List da}{m2 m3:List Bool}(hC:kl S cs x ro fs l m2 m3){a:Int}(ha:a∈aU S m2 m3 l):Qu.bR S a=true:=by unfold aU at ha;rw[List.mem_append]at ha;rcases ha with h|h<;>obtain⟨hd,hh,hk,_⟩:=(qk hw hC.perm).mp h<;>unfold Qu.bR<;>rw[hh]<;>simpa using hk
theorem DP{S:aJ}{cs:List aX}(hw:aY S cs){x:pS}{ro fs:List Int}{l:List da}{m2 m3:List Bool}(hC:kl S cs x ro fs l m2 m3):(aU S m2 m3 l).Nodup:=by unfold aU;rw[List.nodup_append];refine⟨sC hw hC.perm,sC hw hC.perm,fun a ha b hb e=>?_⟩;obtain⟨hd,hh,_,h1,_⟩:=(qk hw hC.perm).mp ha;obtain⟨hd',hh',_,h3,_⟩:=(qk hw hC.perm).mp hb;grind
theorem ED{S:aJ}:∀{r:List Int},Qu.Lk S r→(∀c∈r,Qu.bR S c=true)→∀{b:Int},b∈r→pq S (Ob.get S b 2).1
 |[],_,_,b,hb=>by cases hb
 |a::r,H,hr,b,hb=>by
  rcases List.mem_cons.mp hb with rfl|hb
  ·rw[H.2.1];cases r with
   |nil=>exact .inl rfl
   |cons c r=>exact .inr (Sd.Jr (hr c (.tail _ (.head _))))
  ·exact ED H.2.2 (fun c hc=>hr c (.tail _ hc)) hb
theorem Rt.rh.after{x:Rt}{N:Int}(H:x.rh)(D:x.Ay)(I:x.Inv N){y:pS}{l:List da}{m2 m3:List Bool}(hC:kl x.S x.cs y x.roots x.wa l m2 m3):
  (x.after (aU x.S m2 m3 l) (bV x.S m3 (aU x.S m2 m3 l)) (bI x.S m2 x.wa) (Mk.all m3)).rh:=by
 have hw:=I.w.hw;have W:=I.w.after hC I.sb I.uP;have hcln:=DP hw hC;have A:=MD hw I.w.q hC (fun a=>(Ob.get x.S a 1).1-1) rfl rfl (fun a ha=>⟨by omega,by have:=D.qn a (xi hw hC ((List.mem_filter.mp ha).1));omega⟩) hcln;have live:=fun a ha ho=>(hC.Dk a).mpr (.inl ((hC.BT a).mpr (.base (.root ha ho))));have posO:∀a,Mk.obj x.S a→0<a:=fun a ha=>by have:=(pq.pos hw (.inr ha):0≤a);have h0:a≠0:=fun e=>Mk.mC hw (e▸ha);omega
 unfold Rt.after;have hpu:∀a,a∈bV x.S m3 _→a∈aU x.S m2 m3 l:=fun a ha=>(List.mem_filter.mp ha).1;have hrow:∀a,a∈bV x.S m3 (aU x.S m2 m3 l)∨a∈x.rows.flatten→a∈(Rf.cc (Rf.clear x.S (aU x.S m2 m3 l)).2 x.rows (bV x.S m3 (aU x.S m2 m3 l))).2.flatten:=fun a ha=>by
  obtain⟨j,hj,h⟩:∃j,j<x.rows.length∧a∈(Rf.cc (Rf.clear x.S (aU x.S m2 m3 l)).2 x.rows (bV x.S m3 (aU x.S m2 m3 l))).2.getD j []:=by
   rcases ha with h|h
   ·have h1:=List.mem_filter.mp h;have hq:(Ob.get x.S a 1).1>0:=by grind
    have hq2:=D.qn a (xi hw hC h1.1);refine⟨((Ob.get x.S a 1).1-1).toNat,ae,?_⟩;rw[A.row _ ae];exact List.mem_append_right _ (List.mem_filter.mpr ⟨h,by rw[beq_iff_eq];omega⟩)
   ·obtain⟨r,hr,hm⟩:=List.mem_flatten.mp h;obtain⟨j,hj,e⟩:=List.mem_iff_getElem.mp hr;refine⟨j,hj,?_⟩;rw[A.row j hj];grind
  rw[←A.len]at hj;rw[List.getD_eq_getElem?_getD,List.getElem?_eq_getElem hj]at h;exact List.mem_flatten.mpr ⟨_,List.getElem_mem hj,h⟩
 have hclR:∀b,b∈aU x.S m2 m3 l→Qu.bR x.S b=true:=fun b hb=>xi hw hC hb;have hclN:∀b,Qu.bR x.S b=true→Mk.obj x.S (Ob.get x.S b 0).1→b∉aU x.S m2 m3 l→Sp.has m3 (Ob.get x.S b 0).1=true:=fun b h1 h2 h3=>Kc hw hC h1 h2 h3;generalize bV x.S m3 (aU x.S m2 m3 l)=pu at*;generalize aU x.S m2 m3 l=cl at*;generalize(Rf.cc (Rf.clear x.S cl).2 x.rows pu)=E at*;obtain⟨T,rows2⟩:=E;generalize Sw.fo T (Mk.all m3)=S3 at*;refine⟨fun b j hl=>?_,fun t=>?_,fun v hv=>?_⟩
 ·rcases lT S3 b j with ⟨hd,h1,j0,j1⟩|e
  ·have hb:=(A.obj b).mp (by unfold Mk.obj;rw[h1];rfl);have hh:=A.head b hb;have h2:=hh▸h1;rw[show Ad S3 x.cs b j↔Ad x.S x.cs b j from Ad.cT hh]at hl;by_cases c:j≠2∨(b∉pu∧b∉x.rows.flatten)
   ·rw[A.get b hb h2 j0 j1 c];split;·exact .inl rfl
    ·split
     ·rename_i c2;rcases hl with hl|hl;·rw[zY (hclR b (hpu b c2.1))]at hl;grind
      ·omega
     ·rcases H.jC b j hl with e|ho;·exact .inl e
      ·refine .inr ((A.obj _).mpr ?_);rcases hl with hl|⟨rfl,hl⟩;·exact hC.c3.sO b hb _ (Mk.p6.mpr ⟨j,hl,by rw[Ob.eb h2 j0 j1],rfl⟩) ho
       grind
   ·have hj:j=2:=by omega
    subst hj;have hm:=hrow b eV;obtain⟨r,hr,hbr⟩:=List.mem_flatten.mp hm;exact ED (W.q.lk r hr) (fun c hc=>(W.q.qr c (List.mem_flatten.mpr ⟨r,hr,hc⟩)).1) hbr
  ·rw[e];exact .inl rfl
 ·rcases H.hs t with e|ho;·exact .inl e
  ·refine .inr ((A.obj _).mpr (live _ ?_ ho));by_cases ht:t<512;·exact(vG I.h.len (posO _ ho)).mpr (.inl ⟨t,ht,rfl⟩)
   ·have:Hn.bM x.hs t=(0,0):=by unfold Hn.bM;rw[List.getD_eq_getElem?_getD,List.getElem?_eq_none (by rw[I.h.len];omega)];rfl
    grind
 ·rcases H.ro v hv with e|ho;·exact .inl e
  ·exact .inr ((A.obj _).mpr (live _ ((vG I.h.len (posO _ ho)).mpr (.inr (.inl hv))) ho))
namespace Rx
def Cq(x:Rt)(k a b c:Int)(y:bH):Prop:=
 if k=1 then y=gw x a b else if k=2 then fm x a y else if k=3 then dQ x 2 a y else if k=4 then dQ x 3 a y else
 if k=5 then y=get x a b else if k=6 then y=set x a b c else if k=7 then y=put x a b c else if k=8 then y=drop x a else
 if k=9 then y=root x a b else if k=10 then y=take x a else if k=11 then gq x a b c y else if k=12 then y=aC x a else
 if k=13 then y=clear x a else if k=14 then y=enqueue x a else if k=15 then y=lO x else if k=16 then y=jl x a else
 if k=17 then y=final x a else if k=18 then y=run x a b c else if k=19 then cJ x a y else if k=20 then y=tick x a else
 if k=21 then y=count x a else y=((0,1),x)
theorem o5(k:Int):k=1∨k=2∨k=3∨k=4∨k=5∨k=6∨k=7∨k=8∨k=9∨k=10∨k=11∨k=12∨k=13∨k=14∨k=15∨k=16∨k=17∨k=18∨k=19∨k=20∨k=21∨(k<1∨21<k):=by omega
theorem mM{x:Rt}{k a b c:Int}{y:bH}(h:k<1∨21<k):Cq x k a b c y=(y=((0,1),x)):=by unfold Cq;iterate 21 rw[if_neg ae]
theorem xn{x x1 x2:Rt}{N:Int}{all:Bool}(I:x.Inv N)(h1:x.jF x1 all)(h2:x.jF x2 all):x1=x2:=by obtain⟨z1,z2,l,m2,m3,hC,rfl⟩:=h1;obtain⟨z1',z2',l',m2',m3',hC',rfl⟩:=h2;obtain⟨rfl,rfl,rfl⟩:=kl.eq (x:=x.CS z1 z2 all) (x':=x.CS z1' z2' all) I.key ⟨rfl,rfl,rfl,rfl⟩ hC hC';rfl
def qG(mk:Rt→bH):Prop:=∀(M:Int) (y:Rt),y.Inv M→(mk y).2.Inv (M+1)
theorem Gs{mk:Rt→bH}{x:Rt}{N:Int}(hm:qG mk)(I:x.Inv N){y y':bH}(h:tv mk x y)(h':tv mk x y'):y=y':=by
 rcases h with ⟨h1,rfl⟩|⟨h1,x1,c1,h2⟩<;>rcases h' with ⟨h1',rfl⟩|⟨h1',x1',c1',h2'⟩;·rfl
 ·exact absurd h1' h1
 ·exact absurd h1 h1'
 ·have I1:=hm _ _ I;have:=xn I1 c1 c1';subst this;have I2:=c1.inv I1;rcases h2 with ⟨g1,rfl⟩|⟨g1,x2,c2,rfl⟩<;>rcases h2' with ⟨g1',rfl⟩|⟨g1',x2',c2',rfl⟩;·rfl
  ·exact absurd g1' g1
  ·exact absurd g1 g1'
  ·rw[xn (hm _ _ I2) c2 c2']
theorem xX{mk:Rt→bH}{x:Rt}{N:Int}(hm:qG mk)(I:x.Inv N){y y':bH}(h:dv mk x y)(h':dv mk x y'):y=y':=by
 unfold dv at h h';split at h;·grind
 ·rw[if_neg ‹_›]at h';obtain⟨z,hz,rfl⟩:=h;obtain⟨z',hz',rfl⟩:=h';rw[Gs hm I hz hz']
theorem gI{h:Hd}(hk:h.k≠4):qG (mk h):=fun M y Iy=>
 {Iy with w:=Iy.w.make hk,bb:=⟨Iy.bb.1,by have:=Iy.bb.2;show y.bb≤_;omega⟩,rn:=⟨Iy.rn.1,by have:=Iy.rn.2;show y.rn≤_;omega⟩,h:=Iy.h.le (by omega)}
theorem mJ(a o c:Int):qG (FT a o c):=fun M y Iy=>by obtain⟨w',s1,s2⟩:=Iy.w.bS a o c y.ck Iy.ck.2 Iy.bb.1;exact{w:=w',h:=Iy.h.le ae,ro:=Iy.ro,ck:=Iy.ck,bb:=⟨by have:=Iy.bb.1;show 0≤(Rf.bS _ _ _ _ a o c _).2.2.2;omega,by have:=Iy.bb.2;show(Rf.bS _ _ _ _ a o c _).2.2.2≤_;omega⟩,rn:=⟨Iy.rn.1,by have:=Iy.rn.2;show y.rn≤_;omega⟩,ba:=Iy.ba,stack:=Iy.stack}
theorem B6{x:Rt}{N kind a:Int}(hk:kind≠4)(I:x.Inv N){y y':bH}(h:dQ x kind a y)(h':dQ x kind a y'):y=y':=by
 unfold dQ at h h';split at h;·grind
 ·rw[if_neg ‹_›]at h';exact xX (gI hk) I h h'
theorem Ks{x:Rt}{N k a b c:Int}(I:x.Inv N){y y':bH}(h:Cq x k a b c y)(h':Cq x k a b c y'):y=y':=by
 rcases o5 k with rfl|rfl|rfl|rfl|rfl|rfl|rfl|rfl|rfl|rfl|rfl|rfl|rfl|rfl|rfl|rfl|rfl|rfl|rfl|rfl|rfl|hk;case inr.inl=>
  change fm x a y at h;change fm x a y' at h';unfold fm at h h';split at h;·rw[if_pos ‹_›]at h';exact xX (gI (show(1:Int)≠4 by decide)) I h h'
  grind
 case inr.inr.inl=>exact B6 bd I h h'
 case inr.inr.inr.inl=>exact B6 bd I h h'
 case inr.inr.inr.inr.inr.inr.inr.inr.inr.inr.inl=>
  change gq x a b c y at h;change gq x a b c y' at h';unfold gq at h h';split at h;·grind
  ·rw[if_neg ‹_›]at h';split at h;·grind
   ·rw[if_neg ‹_›]at h';exact xX (mJ _ _ _) I h h'
 case inr.inr.inr.inr.inr.inr.inr.inr.inr.inr.inr.inr.inr.inr.inr.inr.inr.inr.inl=>
  change cJ x a y at h;change cJ x a y' at h';unfold cJ at h h';split at h;·grind
  ·rw[if_neg ‹_›]at h';obtain⟨x1,c1,rfl⟩:=h;obtain⟨x2,c2,rfl⟩:=h';rw[xn I c1 c2]
 case inr.inr.inr.inr.inr.inr.inr.inr.inr.inr.inr.inr.inr.inr.inr.inr.inr.inr.inr.inr.inr=>rw[mM hk]at h h';rw[h,h']
 all_goals exact Eq.trans h (Eq.symm h')
end Rx
structure Rt.LP(x:Rt)(N:Int):Prop where
 I:x.Inv N
 D:x.Ay
 S:x.rh
namespace Rt.LP
variable{x:Rt}{N M:Int}
theorem Ic{x':Rt}{all:Bool}(H:x.LP N)(hN:N<2^50)(h:x.jF x' all):x'.LP (N+1):=by obtain⟨z1,z2,l,m2,m3,hC,rfl⟩:=h;exact⟨H.I.after hC,H.D.after H.I hN hC,H.S.after H.D H.I hC⟩
end Rt.LP
namespace Hn
theorem FN(hs:List Slot)(i t:Nat)(e:Slot):bM (hs.set i e) t=e∨bM (hs.set i e) t=bM hs t:=by unfold bM;grind
theorem JF(hs:List Slot)(a:Int)(t:Nat):(bM (gH hs a) t).2=a∨bM (gH hs a) t=bM hs t:=by
 unfold gH;split;·exact .inr rfl
 ·split
  ·rename_i i _;rcases FN hs i t ((bM hs i).1,a)with h|h;·rw[h];exact .inl rfl
   ·exact .inr h
  ·exact .inr rfl
theorem IF(hs:List Slot)(x:Int)(t:Nat):(bM (kP hs x) t).2=0∨bM (kP hs x) t=bM hs t:=by
 unfold kP;split
 ·rename_i i _;rcases FN hs i t ((bM hs i).1+1,0)with h|h;·rw[h];exact .inl rfl
  ·exact .inr h
 ·exact .inr rfl
end Hn
namespace Rt.rh
variable{x:Rt}{N M:Int}
theorem held(H:x.rh)(h:Int):pq x.S (Hn.held x.hs h).1:=by
 unfold Hn.held;split;·exact H.hs _
 ·exact .inl rfl
theorem fh(H:x.rh)(h:Int)(o:Bool):pq x.S (Rx.fh x h o).1:=by
 unfold Rx.fh;split;·exact .inl rfl
 ·exact H.held h
theorem Gt(H:x.rh){v:Int}(hv:pq x.S v):(Rx.eD x v).rh:=by
 unfold Rx.eD;split;·exact H
 ·exact⟨H.jC,fun t=>(Hn.JF x.hs v t).elim (fun e=>by grind) (fun e=>by rw[e];exact H.hs t),H.ro⟩
theorem drop(H:x.rh)(a:Int):(Rx.drop x a).2.rh:=⟨H.jC,fun t=>(Hn.IF x.hs a t).elim (fun e=> .inl e) (fun e=>by rw[show Hn.bM (Rx.drop x a).2.hs t=_ from e];exact H.hs t),H.ro⟩
theorem place(H:x.rh)(i:Int){a:Int}(ha:pq x.S a):({x with ro:=Rx.cO x.ro i a}:Rt).rh:=⟨H.jC,H.hs,fun v hv=>by
 unfold Rx.cO at hv;split at hv
 ·rcases List.mem_or_eq_of_mem_set hv with h|rfl;·exact H.ro v h
  ·exact ha
 ·exact H.ro v hv⟩
theorem heap(H:x.rh){S':aJ}{rows:List (List Int)}{wa:List Int}{bb:Int}(h:Sd S' x.cs)(ho:∀a,Mk.obj x.S a→Mk.obj S' a):({x with S:=S',rows:=rows,wa:=wa,bb:=bb}:Rt).rh:=⟨h,fun t=>(H.hs t).mono (ho _),fun v hv=>(H.ro v hv).mono (ho _)⟩
theorem iS{S S':aJ}(h:∀b,Ob.head S' b=Ob.head S b)(a:Int)(ho:Mk.obj S a):Mk.obj S' a:=by unfold Mk.obj;rw[h];exact ho
theorem uX{S:aJ}{cs:List aX}(hw:aY S cs)(h:Hd)(a:Int)(ho:Mk.obj S a):Mk.obj (Ob.make S cs h).2.2 a:=by
 by_cases h0:(Ob.make S cs h).2.1=0
 ·unfold Mk.obj at ho⊢;cases hh:Ob.head S a with
  |none=>rw[hh]at ho;cases ho
  |some hd=>rw[(Ob.eU hw h0 hh).1];rfl
 ·rw[(Wl.ky h0).1];exact ho
theorem DY{S:aJ}{cs:List aX}(hw:aY S cs)(rows:List (List Int))(n c o q t:Int)(a:Int)(ho:Mk.obj S a):Mk.obj (Rf.bS S cs rows n c o q t).2.2.1 a:=by
 unfold Rf.bS;split;·exact ho
 ·split;·exact uX hw _ a ho
  ·exact iS (fun b=>Wl.mr _ (hw.make _) b) a (uX hw _ a ho)
end Rt.rh
namespace QN
variable{S S':aJ}{cs:List aX}{n:Int}
theorem Gb(hw:aY S cs)(H:QN S n){a i x:Int}(hr:Qu.bR S a=false):QN (Ob.put S a i x).2 n:=fun b hb=>by
 have hrb:Qu.bR S b=true:=by rw[cQ hw]at hb;exact hb
 rw[cR hw hrb bd bd,if_neg (fun g=>by grind)];exact H b hrb
theorem make(hw:aY S cs)(H:QN S n)(hn:0≤n)(h:Hd):QN (Ob.make S cs h).2.2 n:=by
 by_cases h0:(Ob.make S cs h).2.1=0
 ·intro b hb;obtain⟨hd,hh,hk⟩:=bx hb;have h5:=jm (hw.make h) hh hk;rcases Wl.mA hw h0 hh with ⟨e1,e2⟩|⟨e1,e2⟩;·subst e2;rw[e1,Ob.o4 hw h0 bd ae];exact hn
  ·rw[(Ob.eU hw h0 e2).2.2 1 bd ae];exact H b (by unfold Qu.bR;rw[e2];simpa using hk)
 ·rw[(Wl.ky h0).1];exact H
theorem bS(hw:aY S cs)(H:QN S n)(hn:0≤n)(rows:List (List Int))(hr:(rows.length:Int)≤n)(bb c o q t:Int):QN (Rf.bS S cs rows bb c o q t).2.2.1 n:=by
 unfold Rf.bS;split;·exact H
 ·rename_i hm;have hq:q+1≤n:=by
   by_cases e:q≥rows.length;·refine absurd ?_ hm;unfold Rf.may;omega
   ·omega
  split;·exact H.make hw hn _
  ·have hw1:=hw.make (⟨4,c,5,false⟩:Hd);have h1:QN (Ob.make S cs ⟨4,c,5,false⟩).2.2 n:=H.make hw hn _;generalize(Ob.make S cs ⟨4,c,5,false⟩).1=a at*;have w1:=hw1.put a (0:Nat) o;have w2:=w1.put a (1:Nat) (q+1);have w3:=w2.put a (2:Nat) 0;have w4:=w3.put a (3:Nat) t;exact((((h1.put hw1 (.inl bd)).put w1 (.inr hq)).put w2 (.inl bd)).put w3 (.inl bd)).put w4 (.inl bd)
theorem final(hw:aY S cs)(H:QN S n)(a:Int):QN (Ob.final S a).2 n:=H.mono fun b hb=>by
 obtain⟨hd,hh,hk⟩:=bx hb;obtain⟨hd0,h2,e1,e2,e3,_⟩:=Sd.oJ hw hh;have hr:Qu.bR S b=true:=by unfold Qu.bR;grind
 exact⟨hr,Sd.oS hw h2 bd (by have:=jm hw h2 (e1▸hk);omega)⟩
theorem jl(hw:aY S cs)(H:QN S n)(rows:List (List Int))(i:Int):QN (Qu.dq S rows i) n:=by
 unfold Qu.dq;split;·exact H.put hw (.inl bd)
 ·exact H
end QN
theorem CQ(rows:List (List Int))(i:Int):(Qu.fK rows i).length=rows.length:=by unfold Qu.fK;grind
theorem Kn.cT{S S':aJ}{cs:List aX}(H:Kn S cs)(h:∀b,Ob.head S' b=Ob.head S b):Kn S' cs:=H.mono fun a hd hh=>by rw[←h];exact hh
theorem Kn.bS{S:aJ}{cs:List aX}(hw:aY S cs)(H:Kn S cs)(rows:List (List Int))(n c o q t:Int):Kn (Rf.bS S cs rows n c o q t).2.2.1 cs:=by
 unfold Rf.bS;split;·exact H
 ·split;·exact H.make hw _
  ·exact(H.make hw _).cT fun b=>Wl.mr _ (hw.make _) b
theorem pB{S:aJ}{cs:List aX}(hw:aY S cs)(rows:List (List Int))(i b:Int):Ob.head (Qu.dq S rows i) b=Ob.head S b:=by
 unfold Qu.dq;split;·exact cm hw b
 ·rfl
theorem vc{S:aJ}{cs:List aX}(hw:aY S cs)(l:List Int)(b:Int):Ob.head (Rf.clear S l).2 b=Ob.head S b:=by
 unfold Rf.clear;split;·exact oL l hw b
 ·rfl
theorem mn{S:aJ}{cs:List aX}(hw:aY S cs)(a t b:Int):Ob.head (Rf.aC S a t).2 b=Ob.head S b:=by
 unfold Rf.aC;split;·rfl
 ·split;·exact cm hw b
  ·rfl
theorem QN.aC{S:aJ}{cs:List aX}{n:Int}(hw:aY S cs)(H:QN S n)(a t:Int):QN (Rf.aC S a t).2 n:=by
 unfold Rf.aC;split;·exact H
 ·split;·exact H.put hw (.inl bd)
  ·exact H
namespace Rx
variable{x:Rt}{N:Int}
abbrev DS(x:Rt):Prop:=x.Ay∧x.rh
theorem uu{h:Int}{f:Int→bH}(H:DS x)(hf:pq x.S (fh x h false).1→DS (f (fh x h false).1).2):DS (re x h f).2:=by
 unfold re;split;·exact H
 ·exact hf (H.2.fh h _)
theorem GS{h:Int}{f:Int→bH}(H:DS x)(hf:pq x.S (fh x h true).1→DS (f (fh x h true).1).2):DS (D7 x h f).2:=by
 unfold D7;split;·exact H
 ·exact hf (H.2.fh h _)
theorem oZ(H:DS x){v:Int}(hv:pq x.S v):DS (eD x v):=by
 refine⟨?_,H.2.Gt hv⟩;unfold eD;split;·exact H.1
 ·exact⟨H.1.qn,H.1.kn,H.1.cl⟩
theorem CK{a j:Int}(h:(jC x a j).2.1=true):Ad x.S x.cs a j∧(jC x a j).1=(Ob.get x.S a j).1:=by
 unfold jC at h⊢;split at h;·cases h
 ·split at h;·cases h
  ·split at h;·cases h
   ·rename_i g1 g2 g3;rw[if_neg g2,if_neg g3];exact⟨.inl (oT h),rfl⟩
theorem I6{a j:Int}(h0:(jC x a j).2.2=0)(h:(jC x a j).2.1=false):¬Ad x.S x.cs a j:=by
 have hr:=nt h0;unfold jC at h h0;split at h;·grind
 ·rename_i g;rw[g]at h0;split at h;·grind
  ·split at h;·grind
   ·rintro(h'|⟨_,h'⟩);·grind
    grind
theorem Kd(H:DS x)(a b:Int):DS (get x a b).2:=uu H fun _=>by
 split;·exact H
 ·have h1:(jC x (fh x a false).1 b).2.1=true:=by grind
  obtain⟨g1,g2⟩:=CK h1;exact oZ H (g2▸H.2.jC _ _ g1)
theorem qS(H:DS x){S':aJ}(hq:QN S' x.rows.length)(hk:Kn S' x.cs)(hs:Sd S' x.cs)(ho:∀a,Mk.obj x.S a→Mk.obj S' a):DS {x with S:=S'}:=⟨⟨hq,hk,H.1.cl⟩,H.2.heap hs ho⟩
theorem Ka(H:DS x)(I:x.Inv N)(a b c:Int):DS (set x a b c).2:=uu H fun _=>GS H fun ht=>by
 have hw:=I.w.hw;split;·exact H
 ·rename_i h0;split;·exact H
  ·exact qS H (H.1.qn.Gb hw (nt (by simpa using h0))) (H.1.kn.put hw _ _ _) (H.2.jC.put hw (.inl ht)) (Rt.rh.iS fun b=>cm hw b)
theorem KP(H:DS x)(I:x.Inv N)(a b c:Int):DS (put x a b c).2:=uu H fun _=>by
 have hw:=I.w.hw;split;·exact H
 ·rename_i h0;have h0:(jC x (fh x a false).1 b).2.2=0:=by simpa using h0
  split;·exact H
  ·rename_i h1;exact qS H (H.1.qn.Gb hw (nt h0)) (H.1.kn.put hw _ _ _) (H.2.jC.put hw (.inr (I6 h0 (by simpa using h1)))) (Rt.rh.iS fun b=>cm hw b)
theorem JH(H:DS x)(a:Int):DS (drop x a).2:=⟨⟨H.1.qn,H.1.kn,H.1.cl⟩,H.2.drop a⟩
theorem IL(H:DS x)(a b:Int):DS (root x a b).2:=GS H fun h=>⟨⟨H.1.qn,H.1.kn,H.1.cl⟩,H.2.place a h⟩
theorem zx(H:x.rh)(a:Int):pq x.S (jK x.ro a).1:=by
 unfold jK;split
 ·rw[List.getD_eq_getElem?_getD];cases e:x.ro[a.toNat]? with
  |none=>exact .inl rfl
  |some v=>exact H.ro v (List.mem_of_getElem? e)
 ·exact .inl rfl
theorem IK(H:DS x)(a:Int):DS (take x a).2:=by
 unfold take;split;·exact H
 ·exact oZ H (zx H.2 a)
theorem G5(H:DS x)(a b:Int):DS (gw x a b).2:=by
 unfold gw;split;·exact H
 ·refine⟨⟨H.1.qn,H.1.kn.eE,fun c hc=>?_⟩,⟨H.2.jC.eE H.1.kn _,H.2.hs,H.2.ro⟩⟩;unfold Sp.eE at hc;split at hc;·exact H.1.cl c hc
  split at hc;·exact H.1.cl c hc
  ·rcases List.mem_append.mp hc with h|h;·exact H.1.cl c h
   ·have:=oC b 32;grind
def yc(mk:Rt→bH):Prop:=∀(M:Int) (y:Rt),y.Inv M→DS y→DS (mk y).2∧pq (mk y).2.S (mk y).1.1
theorem sX{x':Rt}{all:Bool}(H:DS x)(I:x.Inv N)(hN:N<2^50)(h:x.jF x' all):DS x':=by have:=Rt.LP.Ic ⟨I,H.1,H.2⟩ hN h;exact⟨this.D,this.S⟩
theorem xk{mk:Rt→bH}(hm:qG mk)(hd:yc mk)(H:DS x)(I:x.Inv N)(hN:N+10<2^49){y:bH}(h:dv mk x y):DS y.2:=by
 unfold dv at h;split at h;·rw[h];exact H
 ·obtain⟨z,hz,rfl⟩:=h;have key:DS z.2∧pq z.2.S z.1.1:=by
   have I0:=hm _ _ I;have H0:=hd _ _ I H;rcases hz with ⟨_,rfl⟩|⟨_,x1,c1,hz⟩;·exact H0
   ·have I1:=c1.inv I0;have H1:=sX H0.1 I0 ae c1;have I1':=hm _ _ I1;have H1':=hd _ _ I1 H1;rcases hz with ⟨_,rfl⟩|⟨_,x2,c2,rfl⟩;·exact H1'
    ·exact hd _ _ (c2.inv I1') (sX H1'.1 I1' ae c2)
  split;·exact key.1
  ·exact oZ key.1 key.2
theorem zD(h:Hd):yc (mk h):=fun M y Iy H=>by
 have hw:=Iy.w.hw;refine⟨qS H (H.1.qn.make hw ae h) (H.1.kn.make hw h) (H.2.jC.make hw h) (Rt.rh.uX hw h),?_⟩;show pq (Ob.make y.S y.cs h).2.2 (Ob.make y.S y.cs h).1;by_cases h0:(Ob.make y.S y.cs h).2.1=0;·exact .inr (by unfold Mk.obj;rw[Ob.jE hw h0];rfl)
 ·rw[(Wl.ky h0).2];exact .inl rfl
theorem FC(a o c:Int):yc (FT a o c):=fun M y Iy H=>by
 have hw:=Iy.w.hw;refine⟨⟨⟨H.1.qn.bS hw ae _ (Int.le_refl _) _ _ _ _ _,H.1.kn.bS hw _ _ _ _ _ _,H.1.cl⟩,H.2.heap (H.2.jC.bS hw _ _ _ _ _ _) (Rt.rh.DY hw _ _ _ _ _ _)⟩,?_⟩;show pq (Rf.bS y.S y.cs y.rows y.bb a o c y.ck).2.2.1 (Rf.bS y.S y.cs y.rows y.bb a o c y.ck).1;unfold Rf.bS;split;·exact .inl rfl
 ·split;·exact .inl rfl
  ·rename_i h0;have h0:(Ob.make y.S y.cs ⟨4,a,5,false⟩).2.1=0:=by simpa using h0
   exact .inr (Rt.rh.iS (fun b=>Wl.mr _ (hw.make _) b) _ (by unfold Mk.obj;rw[Ob.jE hw h0];rfl))
theorem B9{kind a:Int}(hk:kind≠4)(H:DS x)(I:x.Inv N)(hN:N+10<2^49){y:bH}(h:dQ x kind a y):DS y.2:=by
 unfold dQ at h;split at h;·rw[h];exact H
 ·exact xk (gI hk) (zD _) H I hN h
theorem EV{a:Int}(H:DS x)(I:x.Inv N)(hN:N+10<2^49){y:bH}(h:fm x a y):DS y.2:=by
 unfold fm at h;split at h;·exact xk (gI (show(1:Int)≠4 by decide)) (zD _) H I hN h
 ·rw[h];exact H
theorem Fy{a b c:Int}(H:DS x)(I:x.Inv N)(hN:N+10<2^49){y:bH}(h:gq x a b c y):DS y.2:=by
 unfold gq at h;split at h;·rw[h];exact H
 ·split at h;·rw[h];exact H
  ·exact xk (mJ _ _ _) (FC _ _ _) H I hN h
theorem zp(H:DS x)(I:x.Inv N)(a:Int):DS (aC x a).2:=uu H fun _=>by
 have hw:=I.w.hw;generalize(fh x a false).1=o;have J:=qS H (H.1.qn.aC hw o x.ck) (H.1.kn.cT (mn hw o x.ck)) (H.2.jC.aC hw o x.ck) (Rt.rh.iS (mn hw o x.ck));split;·exact H
 ·rename_i hd hh;split;·exact H
  ·rename_i hk;split;·exact H
   ·split;·exact H
    ·split;·exact H
     ·split;·exact J
      ·apply oZ J;have hr:Qu.bR x.S o=true:=by unfold Qu.bR;rw[hh];simpa using hk
       have h0:=H.2.jC o 0 (.inr ⟨rfl,hr⟩);have e:pq x.S (Rf.aC x.S o x.ck).1.1:=by
        unfold Rf.aC;split;·exact .inl rfl
        ·exact h0
       exact e.cT (mn hw o _)
theorem GF(H:DS x)(I:x.Inv N)(a:Int):DS (clear x a).2:=uu H fun _=>by have hw:=I.w.hw;exact qS H (H.1.qn.clear hw _) (H.1.kn.cT (vc hw _)) (H.2.jC.clear hw _) (Rt.rh.iS (vc hw _))
theorem By(H:DS x)(I:x.Inv N)(a:Int):DS (enqueue x a).2:=uu H fun _=>by have hw:=I.w.hw;refine⟨⟨?_,H.1.kn.cT (mG hw _ _),H.1.cl⟩,H.2.heap (H.2.jC.dJ hw _ _) (Rt.rh.iS (mG hw _ _))⟩;rw[Cd];exact H.1.qn.dJ hw I.w.r.qb ae _ _
theorem Il(H:DS x):DS (lO x).2:=by unfold lO;refine⟨⟨H.1.qn.le ?_,H.1.kn,H.1.cl⟩,⟨H.2.jC,H.2.hs,H.2.ro⟩⟩;grind
theorem Io(H:DS x)(I:x.Inv N)(a:Int):DS (jl x a).2:=by
 have hw:=I.w.hw;have J:DS {x with S:=Qu.dq x.S x.rows a,rows:=Qu.fK x.rows a}:=⟨⟨by rw[CQ];exact H.1.qn.jl hw _ _,H.1.kn.cT (pB hw _ _),H.1.cl⟩,H.2.heap (H.2.jC.jl hw _ _) (Rt.rh.iS (pB hw _ _))⟩;unfold jl;split;·exact H
 ·split;·exact H
  ·rename_i h1 h2;split;·exact H
   ·split;·exact J
    ·apply oZ J;have hh:Qu.has x.rows a=true:=by simpa using h1
     refine .inr (Rt.rh.iS (pB hw _ _) _ ?_);unfold Qu.jA;rw[if_pos hh];have hm:=ku hh;refine Sd.Jr (I.w.q.qr _ (List.mem_flatten.mpr ⟨_,hm,?_⟩)).1;cases e:Qu.row x.rows a with
     |nil=>exact absurd e h2
     |cons y ys=>exact .head _
theorem FP(H:DS x)(I:x.Inv N)(a:Int):DS (final x a).2:=uu H fun _=>by have hw:=I.w.hw;exact⟨⟨H.1.qn.final hw _,H.1.kn.final hw _,H.1.cl⟩,H.2.heap (H.2.jC.final hw _) (fun a h=>(Sd.pC x.S _ a).mpr h)⟩
theorem KJ(H:DS x)(I:x.Inv N)(a b c:Int):DS (run x a b c).2:=by
 have J:DS {x with pe:=Fn.eX x.pe a}:=⟨⟨H.1.qn,H.1.kn,H.1.cl⟩,⟨H.2.jC,H.2.hs,H.2.ro⟩⟩;have ho:pq x.S (Fn.gJ x.pe a).1:=by
  unfold Fn.gJ;split
  ·rw[List.getD_eq_getElem?_getD];cases e:x.pe[a.toNat]? with
   |none=>exact .inl rfl
   |some v=>exact .inr (I.w.f.fl v (List.mem_append_right _ (List.mem_of_getElem? e))).obj
  ·exact .inl rfl
 unfold run;split;·exact H
 ·split;·exact H
  ·split;·exact H
   ·split;·exact J
    ·split;·exact⟨⟨H.1.qn,H.1.kn,H.1.cl⟩,J.2.place c ho⟩
     ·split;·exact oZ J ho
      ·exact J
theorem K2{k a b c:Int}(H:DS x)(I:x.Inv N)(hN:N+10<2^49){y:bH}(h:Cq x k a b c y):DS y.2:=by
 rcases o5 k with rfl|rfl|rfl|rfl|rfl|rfl|rfl|rfl|rfl|rfl|rfl|rfl|rfl|rfl|rfl|rfl|rfl|rfl|rfl|rfl|rfl|hk;·rw[show y=gw x a b from h];exact G5 H a b
 ·exact EV H I hN (show fm x a y from h)
 ·exact B9 bd H I hN (show dQ x 2 a y from h)
 ·exact B9 bd H I hN (show dQ x 3 a y from h)
 ·rw[show y=get x a b from h];exact Kd H a b
 ·rw[show y=set x a b c from h];exact Ka H I a b c
 ·rw[show y=put x a b c from h];exact KP H I a b c
 ·rw[show y=drop x a from h];exact JH H a
 ·rw[show y=root x a b from h];exact IL H a b
 ·rw[show y=take x a from h];exact IK H a
 ·exact Fy H I hN (show gq x a b c y from h)
 ·rw[show y=aC x a from h];exact zp H I a
 ·rw[show y=clear x a from h];exact GF H I a
 ·rw[show y=enqueue x a from h];exact By H I a
 ·rw[show y=lO x from h];exact Il H
 ·rw[show y=jl x a from h];exact Io H I a
 ·rw[show y=final x a from h];exact FP H I a
 ·rw[show y=run x a b c from h];exact KJ H I a b c
 ·change cJ x a y at h;unfold cJ at h;split at h;·rw[h];exact H
  ·obtain⟨x',c1,rfl⟩:=h;exact sX H I ae c1
 ·rw[show y=tick x a from h];unfold tick;split;·exact H
  ·exact⟨⟨H.1.qn,H.1.kn,H.1.cl⟩,⟨H.2.jC,H.2.hs,H.2.ro⟩⟩
 ·rw[show y=count x a from h];unfold count;split<;>exact H
 ·rw[mM hk]at h;rw[h];exact H
end Rx
theorem Rt.Kt{pg ba stack:Int}(h:1≤pg∧pg≤256):Rx.DS (Rt.new pg ba stack):=by
 have h0:1≤pg.toNat:=by omega
 have hd:=fun a=>uA h0 a;have hno:∀a,Qu.bR (Sp.ch pg.toNat) a=true→False:=fun a ha=>by obtain⟨hd',hh,_⟩:=bx ha;rw[hd]at hh;cases hh
 refine⟨⟨fun a ha=>(hno a ha).elim,fun a h' hh=>?_,fun c hc=>by cases hc⟩,⟨fun a j hl=>?_,fun t=> .inl ?_,fun v hv=> .inl (List.eq_of_mem_replicate hv)⟩⟩;·change Ob.head (Sp.ch pg.toNat) a=some h' at hh;rw[hd]at hh;cases hh
 ·show pq (Sp.ch pg.toNat) (Ob.get (Sp.ch pg.toNat) a j).1;rcases lT (Sp.ch pg.toNat) a j with ⟨h',hh,_⟩|e;·rw[hd]at hh;cases hh
  ·rw[e];exact .inl rfl
 ·show(Hn.bM (List.replicate 512 (0,0)) t).2=0;unfold Hn.bM;grind
theorem Spec.Li{P:Program}{f:FuncId}{args:List Value}{r:RK}{B:RT r→List aD→Prop}(h:Gl.Spec ρ P f args [] r B)(A:List aD):Gl.Spec ρ P f args A r fun x M=>∃M',B x M'∧M=M'++A:=fun R w hw=>
 (h (A++R) w hw).mono fun e w' ⟨x,L,h1,h2,h3⟩=>⟨x,L++A,h1,⟨L,h2,rfl⟩,by grind⟩
theorem Rx.Er{k:Int}(hk:k<1∨21<k)(q b1 b2 b3 b4:Nat):iy k (Rx.rX q b1 b2 b3 b4)=none:=by
 unfold Rx.rX;iterate 21 unfold iy;rw[if_neg bq]
 rfl
theorem Lu(i:Pl)(q:Nat)(x:Rt){N:Int}(I:x.Inv N)(k a b c:Int)(hN:N+10<2^49)(ha:a<9223372036854775808):BA ρ i q k a b c x fun y=>Rx.Cq x k a b c y∧y.2.Inv (N+10):=by
 have one:∀{y:bH} {M:Int},yj ρ i q k a b c x y→Rx.Cq x k a b c y→y.2.Inv M→M≤N+10→BA ρ i q k a b c x fun y=>Rx.Cq x k a b c y∧y.2.Inv _:=fun h h1 h2 h3=>Spec.post h fun r M ⟨e1,e2⟩=>⟨_,⟨h1,h2.le h3⟩,e1,e2⟩;have hN0:0≤N:=by have:=I.bb;omega
 rcases Rx.o5 k with rfl|rfl|rfl|rfl|rfl|rfl|rfl|rfl|rfl|rfl|rfl|rfl|rfl|rfl|rfl|rfl|rfl|rfl|rfl|rfl|rfl|hk
 ·refine one (G8 i q x I a b c) rfl (M:=N) ?_ ae;unfold Rx.gw;split;·exact I
  ·exact{I with w:=⟨I.w.hw.eE (by have:=Rx.oC b 32;omega),I.w.q,I.w.r,I.w.f,I.w.ws⟩}
 ·exact FU i q x I a b c hN
 ·exact xU i q x I a b c hN (.inl ⟨rfl,rfl⟩)
 ·exact xU i q x I a b c hN (.inr ⟨rfl,rfl⟩)
 ·exact one (K1 i q x I a b c ae) rfl (Rx.Ct I a b) ae
 ·exact one (KG i q x I a b c ae) rfl (Rx.B7 I a b c) ae
 ·exact one (Lj i q x I a b c ae) rfl (Rx.Ck I a b c) ae
 ·exact one (IG i q x I a b c ae) rfl (Rx.y9 I hN0 a) ae
 ·exact one (Je i q x I a b c ae) rfl (Rx.zN I a b) ae
 ·exact one (HS i q x I a b c ae) rfl (Rx.yI I a) ae
 ·exact ES i q x I a b c hN
 ·exact one (zO i q x I a b c ae) rfl (Rx.qM I a) ae
 ·exact one (G3 i q x I a b c ae) rfl (Rx.vU I a) ae
 ·exact one (AU i q x I a b c ae) rfl (Rx.sx I a) ae
 ·exact one (Jb i q x I a b c ae) rfl (Rx.zM I) ae
 ·exact one (Ih i q x I a b c ae) rfl (Rx.zj I a) ae
 ·exact one (Ez i q x I a b c ae) rfl (Rx.vT I a) ae
 ·exact one (Lg i q x I a b c ae) rfl (Rx.Ca I a b c) ae
 ·refine Spec.post (A5 i q x I a b c ae) fun r M ⟨y,hy,e1,e2⟩=>⟨y,⟨hy,?_⟩,e1,e2⟩;unfold Rx.cJ at hy;split at hy;·rw[hy];exact I.le ae
  ·obtain⟨x',c1,rfl⟩:=hy;exact(c1.inv I).le ae
 ·exact one (Jg i q x I a b c ae ha) rfl (Rx.yR I ha) ae
 ·exact one (FQ i q x I a b c ae) rfl (Rx.wI I a) ae
 ·refine Spec.post (Spec.Li (EZ q k a b c (Rx.Er hk q)) _) fun r M ⟨M',⟨e1,e2⟩,e3⟩=>⟨(_,x),⟨by rw[Rx.mM hk],I.le ae⟩,e1,by rw[e3,e2];rfl⟩
structure Ah(S:aJ)(rows:List (List Int))(ck:Int):Prop where
 lz:∀a,Qu.bR S a=true→a∉rows.flatten→(Ob.get S a 2).1=0
 qz:∀a∈rows.flatten,(Ob.get S a 0).1=0
 bw:∀a hd,Ob.head S a=some hd→Sp.cV S a=Sp.au (hd.n+1)
 st:∀a,Qu.bR S a=true→0≤(Ob.get S a 3).1∧(Ob.get S a 3).1≤ck
theorem nu{S S':aJ}{a:Int}(h:Sp.find S' a=Sp.find S a):Sp.cV S' a=Sp.cV S a:=by unfold Sp.cV;rw[h]
theorem tH(S:aJ)(a i x b:Int):Sp.find (Ob.put S a i x).2 b=Sp.find S b:=by obtain⟨ws',e,hl⟩:=xI S a i x;rw[e];exact kp hl b
namespace Ah
variable{S S':aJ}{cs:List aX}{rows rows':List (List Int)}{ck:Int}
theorem put(hw:aY S cs)(H:Ah S rows ck){a i x:Int}(h2:i≠2∨x=0∨a∈rows.flatten∨Qu.bR S a=false)(h0:i≠0∨x=0∨a∉rows.flatten)(h3:i≠3∨(0≤x∧x≤ck)∨Qu.bR S a=false):Ah (Ob.put S a i x).2 rows ck:=by
 refine⟨fun b hb hn=>?_,fun b hb=>?_,fun b hd hh=>?_,fun b hb=>?_⟩
 ·rw[cQ hw]at hb;rw[cR hw hb bd bd];split;·grind
  ·exact H.lz b hb hn
 ·rcases lT (Ob.put S a i x).2 b 0 with ⟨hd,hh,_,j1⟩|e
  ·rw[cm hw]at hh;rw[kV hw hh bd j1];split;·grind
   ·exact H.qz b hb
  ·exact e
 ·rw[cm hw]at hh;rw[nu (tH S a i x b)];exact H.bw b _ hh
 ·rw[cQ hw]at hb;rw[cR hw hb bd bd];split;·grind
  ·exact H.st b hb
theorem xq(H:Ah S rows ck)(h1:∀b,Qu.bR S b=true→b∉rows'.flatten→b∈rows.flatten→(Ob.get S b 2).1=0)(h2:∀b∈rows'.flatten,b∈rows.flatten∨(Ob.get S b 0).1=0):Ah S rows' ck:=
 ⟨fun b hb hn=>by
  rcases Decidable.em (b∈rows.flatten)with h|h;·exact h1 b hb hn h
  ·exact H.lz b hb h,fun b hb=>(h2 b hb).elim (H.qz b) id,H.bw,H.st⟩
theorem iu(l:List Int):∀{S:aJ},aY S cs→Ah S rows ck→Ah (Rf.iu S l) rows ck:=by
 induction l with
 |nil=>exact fun _ h=>h
 |cons a l ih=>exact fun hw h=>ih (hw.put a 0 0) (h.put hw (.inl bd) (.inr (.inl rfl)) (.inl bd))
theorem clear(hw:aY S cs)(H:Ah S rows ck)(l:List Int):Ah (Rf.clear S l).2 rows ck:=by
 unfold Rf.clear;split;·exact H.iu l hw
 ·exact H
theorem push(hw:aY S cs)(H:Ah S rows ck){i a:Int}(h0:(Ob.get S a 0).1=0):Ah (Qu.bP S rows i a) (Qu.dN S rows i a) ck:=by
 unfold Qu.bP Qu.dN;by_cases h:(Qu.has rows i&&Qu.bR S a)=true
 ·rw[if_pos h,if_pos h];rw[Bool.and_eq_true]at h;obtain⟨i0,i1⟩:=jo h.1;have he:Qu.row rows i=rows[i.toNat]:=by unfold Qu.row;grind
  have hp:=rD a i1;rw[he];have hw1:=hw.put a 2 0;have H1:Ah (Ob.put S a 2 0).2 rows ck:=H.put hw (.inr (.inl rfl)) (.inl bd) (.inl bd);have e0:(Ob.get (Ob.put S a 2 0).2 a 0).1=0:=by rw[cR hw h.2 bd bd,if_neg bu];exact h0
  by_cases hn:rows[i.toNat]=[];·rw[if_pos hn];refine H1.xq (fun b _ hb hr=>absurd (hp.mem_iff.mpr (.tail _ hr)) hb) fun b hb=>?_;grind
  ·rw[if_neg hn];have hlm:rows[i.toNat].getLastD 0∈rows.flatten:=nV i1 (qu hn);have H2:=H1.put hw1 (i:=2) (x:=a) (.inr (.inr (.inl hlm))) (.inl bd) (.inl bd);refine H2.xq (fun b _ hb hr=>absurd (hp.mem_iff.mpr (.tail _ hr)) hb) fun b hb=>?_;rcases List.mem_cons.mp (hp.mem_iff.mp hb)with rfl|hb;·right;rw[cR hw1 (by rw[cQ hw];exact h.2) bd bd,if_neg bu];exact e0
   ·exact .inl hb
 grind
theorem dJ(hw:aY S cs)(Q:QI S rows)(H:Ah S rows ck)(a:Int):Ah (Rf.dJ S rows a).2.1 (Rf.dJ S rows a).2.2 ck:=by
 have hw1:=hw.put a 0 0;have H1:Ah (Ob.put S a 0 0).2 rows ck:=H.put hw (.inl bd) (.inr (.inl rfl)) (.inl bd);unfold Rf.dJ;split
 ·rename_i hr;have e0:(Ob.get (Ob.put S a 0 0).2 a 0).1=0:=by rw[cR hw hr bd bd,if_pos ⟨rfl,rfl⟩]
  split;·exact H1
  ·have H2:=H1.push hw1 (i:=Rf.qn S a-1) e0;split;·exact H2
   ·exact H2.put (mQ hw1 _ _ _) (.inl bd) (.inl bd) (.inl bd)
 ·exact H
theorem cc:∀(l:List Int) {S:aJ} {rows:List (List Int)},aY S cs→QI S rows→Ah S rows ck→Ah (Rf.cc S rows l).1 (Rf.cc S rows l).2 ck
 |[],_,_,_,_,h=>h
 |a::l,S,rows,hw,q,h=>cc l (S:=(Rf.dJ S rows a).2.1) (rows:=(Rf.dJ S rows a).2.2) (BH hw rows a) (q.dJ hw a).1 (h.dJ hw q a)
theorem jl(hw:aY S cs)(Q:QI S rows)(H:Ah S rows ck)(i:Int):Ah (Qu.dq S rows i) (Qu.fK rows i) ck:=by
 unfold Qu.dq Qu.fK;by_cases hh:Qu.has rows i=true
 ·obtain⟨i0,i1⟩:=jo hh;have he:Qu.row rows i=rows[i.toNat]:=by unfold Qu.row;grind
  rw[if_pos hh,he];cases hr:rows[i.toNat]with
  |nil=>
   have:rows.set i.toNat []=rows:=by rw[←hr];simp
   grind
  |cons b t=>
   rw[if_pos ⟨hh,bu⟩];have hp:=rS i1 hr;have hbm:=hp.mem_iff.mpr (.head _);have hbr:=(Q.qr b hbm).1;have H1:Ah (Ob.put S b 2 0).2 rows ck:=H.put hw (.inr (.inl rfl)) (.inl bd) (.inl bd);refine H1.xq (fun c hc hn hm=>?_) fun c hc=> .inl (hp.mem_iff.mpr (.tail _ hc));rcases List.mem_cons.mp (hp.mem_iff.mp hm)with rfl|hm;·rw[cR hw hbr bd bd,if_pos ⟨rfl,rfl⟩]
   ·exact absurd hm hn
 grind
theorem aC(hw:aY S cs)(H:Ah S rows ck)(a:Int)(hc:0≤ck):Ah (Rf.aC S a ck).2 rows ck:=by
 unfold Rf.aC;split;·exact H
 ·split;·exact H.put hw (.inl bd) (.inl bd) (.inr (.inl ⟨hc,Int.le_refl _⟩))
  ·exact H
theorem later(H:Ah S rows ck){ck':Int}(h:ck≤ck'):Ah S rows ck':=⟨H.lz,H.qz,H.bw,fun a ha=>by have:=H.st a ha;omega⟩
theorem E3(hw:aY S cs)(Q:QI S rows)(H:Ah S rows ck)(hc:0≤ck)(h:Hd):Ah (Ob.make S cs h).2.2 rows ck:=by
 by_cases h0:(Ob.make S cs h).2.1=0
 ·have hwm:=hw.make h;obtain⟨n,k,e1,_,e3,e4,_,_,e7,e8,_⟩:=Ob.l6 hw h0;have rj:∀{b:Int} {hd:Hd},b≠(Ob.make S cs h).1→Ob.head S b=some hd→∀j,0≤j→j<hd.n→Ob.get (Ob.make S cs h).2.2 b j=Ob.get S b j:=fun _ hh j j0 j1=>(Ob.eU hw h0 hh).2.2 j j0 j1;have cases':∀b,Qu.bR (Ob.make S cs h).2.2 b=true→∀j,0≤j→j<5→(Ob.get (Ob.make S cs h).2.2 b j).1=0∨(Qu.bR S b=true∧Ob.get (Ob.make S cs h).2.2 b j=Ob.get S b j):=fun b hb j j0 j1=>by
   obtain⟨hd,hh,hk⟩:=bx hb;have h5:=jm hwm hh hk;rcases Wl.mA hw h0 hh with ⟨g1,g2⟩|⟨g1,g2⟩;·subst g2;left;rw[g1,Ob.o4 hw h0 j0 ae]
   ·right;exact⟨by unfold Qu.bR;rw[g2];simpa using hk,rj g1 g2 j j0 ae⟩
  refine⟨fun b hb hn=>?_,fun b hb=>?_,fun b hd hh=>?_,fun b hb=>?_⟩
  ·rcases cases' b hb 2 bd bd with e|⟨g1,g2⟩;·exact e
   ·rw[g2];exact H.lz b g1 hn
  ·have hr:=(Q.qr b hb).1;obtain⟨hd,hh,hk⟩:=bx hr;have h5:=jm hw hh hk;rw[(Ob.eU hw h0 hh).2.2 0 bd ae];exact H.qz b hb
  ·rcases Wl.mA hw h0 hh with ⟨g1,g2⟩|⟨g1,g2⟩
   ·subst g2;rw[g1,e1];unfold Sp.cV;have hn:n≤n∧n<n+k:=by have:=Sp.cb (Ob.q7 hwm hh);omega
    rw[e7 n,if_pos hn,e3]
   ·have e:=H.bw b hd g2;obtain⟨m,w,rfl,f1,_⟩:=Ob.bU hw g2;have hne:¬(n≤m∧m<n+k):=fun g=>by grind
    rw[nu (show Sp.find (Ob.make S cs h).2.2 (m:Int)=Sp.find S m by rw[e7 m,if_neg hne])];exact e
  ·rcases cases' b hb 3 bd bd with e|⟨g1,g2⟩;·omega
   ·rw[g2];exact H.st b g1
 ·rw[(Wl.ky h0).1];exact H
theorem bS(hw:aY S cs)(Q:QI S rows)(H:Ah S rows ck)(hc:0≤ck)(n c o q:Int):Ah (Rf.bS S cs rows n c o q ck).2.2.1 rows ck:=by
 unfold Rf.bS;split;·exact H
 ·split;·exact H.E3 hw Q hc _
  ·rename_i h0;have h0:(Ob.make S cs ⟨4,c,5,false⟩).2.1=0:=by simpa using h0
   have hw1:=hw.make (⟨4,c,5,false⟩:Hd);have h1:Ah (Ob.make S cs ⟨4,c,5,false⟩).2.2 rows ck:=H.E3 hw Q hc _;have ha:(Ob.make S cs ⟨4,c,5,false⟩).1∉rows.flatten:=fun g=>by obtain⟨hd,hh,_⟩:=bx (Q.qr _ g).1;exact(Ob.eU hw h0 hh).2.1 rfl
   generalize(Ob.make S cs ⟨4,c,5,false⟩).1=a at*;have w1:=hw1.put a (0:Nat) o;have w2:=w1.put a (1:Nat) (q+1);have w3:=w2.put a (2:Nat) 0;have w4:=w3.put a (3:Nat) ck;have g1:=h1.put hw1 (i:=(0:Nat)) (x:=o) (.inl bd) (.inr (.inr ha)) (.inl bd);have g2:=g1.put w1 (a:=a) (i:=(1:Nat)) (x:=q+1) (.inl bd) (.inl bd) (.inl bd);have g3:=g2.put w2 (a:=a) (i:=(2:Nat)) (.inr (.inl rfl)) (.inl bd) (.inl bd);have g4:=g3.put w3 (a:=a) (i:=(3:Nat)) (.inl bd) (.inl bd) (.inr (.inl ⟨hc,Int.le_refl _⟩));exact g4.put w4 (.inl bd) (.inl bd) (.inl bd)
theorem BS(S:aJ)(a b:Int):Sp.find (Ob.final S a).2 b=Sp.find S b:=by
 unfold Ob.final;split;·rfl
 ·split;·rfl
  ·split;·rfl
   ·exact kp bu b
theorem final(hw:aY S cs)(H:Ah S rows ck)(a:Int):Ah (Ob.final S a).2 rows ck:=by
 have key:∀b,Qu.bR (Ob.final S a).2 b=true→Qu.bR S b=true∧∀j,0≤j→j<5→Ob.get (Ob.final S a).2 b j=Ob.get S b j:=fun b hb=>by obtain⟨hd,hh,hk⟩:=bx hb;obtain⟨hd0,h2,e1,e2,e3,_⟩:=Sd.oJ hw hh;have h5:=jm hw h2 (e1▸hk);exact⟨by unfold Qu.bR;grind,fun j j0 j1=>Sd.oS hw h2 j0 ae⟩
 refine⟨fun b hb hn=>?_,fun b hb=>?_,fun b hd hh=>?_,fun b hb=>?_⟩;·obtain⟨g1,g2⟩:=key b hb;rw[g2 2 bd bd];exact H.lz b g1 hn
 ·rcases lT (Ob.final S a).2 b 0 with ⟨hd,hh,_,j1⟩|e;·obtain⟨hd0,h2,_,_,e3,_⟩:=Sd.oJ hw hh;rw[Sd.oS hw h2 bd ae];exact H.qz b hb
  ·exact e
 ·obtain⟨hd0,h2,_,_,e3,_⟩:=Sd.oJ hw hh;rw[nu (BS S a b),e3];exact H.bw b _ h2
 ·obtain⟨g1,g2⟩:=key b hb;rw[g2 3 bd bd];exact H.st b g1
theorem fo(hw:aY S cs)(H:Ah S rows ck)(live:List Int):Ah (Sw.fo S live) rows ck:=by
 have L:=Sw.nN hw live;generalize Sw.fo S live=S3 at*;have hd3:∀b hd,Ob.head S3 b=some hd→Ob.head S b=some hd:=fun b hd hh=>by rw[L.head]at hh;grind
 have key:∀b,Qu.bR S3 b=true→Qu.bR S b=true∧∀j,0≤j→j<5→Ob.get S3 b j=Ob.get S b j:=fun b hb=>by obtain⟨hd,hh,hk⟩:=bx hb;have h5:=jm L.hw hh hk;exact⟨by unfold Qu.bR;grind,fun j j0 j1=>by rw[Ob.eb hh j0 ae,Ob.eb (hd3 b hd hh) j0 ae,L.ws]⟩
 refine⟨fun b hb hn=>?_,fun b hb=>?_,fun b hd hh=>?_,fun b hb=>?_⟩;·obtain⟨g1,g2⟩:=key b hb;rw[g2 2 bd bd];exact H.lz b g1 hn
 ·rcases lT S3 b 0 with ⟨hd,hh,_,j1⟩|e;·rw[Ob.eb hh bd j1,L.ws,←Ob.eb (hd3 b hd hh) bd j1];exact H.qz b hb
  ·exact e
 ·obtain⟨m,w,rfl,f1,_⟩:=Ob.bU L.hw hh;have f2:=((L.find m w).mp f1).1;rw[nu (f1.trans f2.symm)];exact H.bw m _ (hd3 _ _ hh)
 ·obtain⟨g1,g2⟩:=key b hb;rw[g2 3 bd bd];exact H.st b g1
end Ah
abbrev Rt.Au(x:Rt):Prop:=Ah x.S x.rows x.ck
theorem Rt.Au.after{x:Rt}{N:Int}(H:x.Au)(I:x.Inv N)(cl pu pn lv:List Int):(x.after cl pu pn lv).Au:=by have W:=I.w.clear cl;have h1:=Ah.cc pu W.hw W.q (H.clear I.w.hw cl);obtain⟨_,e2,_⟩:=QI.cc pu W.hw W.q;exact h1.fo e2 _
namespace Rx
variable{x:Rt}{N:Int}
theorem s9{x':Rt}{all:Bool}(H:x.Au)(I:x.Inv N)(h:x.jF x' all):x'.Au:=by obtain⟨z1,z2,l,m2,m3,hC,rfl⟩:=h;exact H.after I _ _ _ _
theorem o9(H:x.Au)(v:Int):(eD x v).Au:=by unfold eD;grind
theorem tj{h:Int}{f:Int→bH}(H:x.Au)(hf:∀a,(f a).2.Au):(re x h f).2.Au:=by unfold re;grind
theorem Gd{h:Int}{f:Int→bH}(H:x.Au)(hf:∀a,(f a).2.Au):(D7 x h f).2.Au:=by unfold D7;grind
theorem Ah.Gb{S:aJ}{cs:List aX}{rows:List (List Int)}{ck:Int}(hw:aY S cs)(Q:QI S rows)(H:Ah S rows ck){a i v:Int}(hr:Qu.bR S a=false):Ah (Ob.put S a i v).2 rows ck:=
 H.put hw (.inr (.inr (.inr hr))) (.inr (.inr fun g=>by rw[(Q.qr a g).1]at hr;cases hr)) (.inr (.inr hr))
def w9(mk:Rt→bH):Prop:=∀(M:Int) (y:Rt),y.Inv M→y.Au→(mk y).2.Au
theorem xc{mk:Rt→bH}(hm:qG mk)(ha:w9 mk)(H:x.Au)(I:x.Inv N){y:bH}(h:dv mk x y):y.2.Au:=by
 unfold dv at h;split at h;·rw[h];exact H
 ·obtain⟨z,hz,rfl⟩:=h;have key:z.2.Au:=by
   have I0:=hm _ _ I;have H0:=ha _ _ I H;rcases hz with ⟨_,rfl⟩|⟨_,x1,c1,hz⟩;·exact H0
   ·have I1:=c1.inv I0;have H1:=s9 H0 I0 c1;have I1':=hm _ _ I1;have H1':=ha _ _ I1 H1;rcases hz with ⟨_,rfl⟩|⟨_,x2,c2,rfl⟩;·exact H1'
    ·exact ha _ _ (c2.inv I1') (s9 H1' I1' c2)
  split;·exact key
  ·exact o9 key _
theorem yQ(h:Hd):w9 (mk h):=fun M y Iy H=>Ah.E3 Iy.w.hw Iy.w.q H Iy.ck.1 h
theorem FB(a o c:Int):w9 (FT a o c):=fun M y Iy H=>Ah.bS Iy.w.hw Iy.w.q H Iy.ck.1 _ _ _ _
theorem Cc{kind a:Int}(hk:kind≠4)(H:x.Au)(I:x.Inv N){y:bH}(h:dQ x kind a y):y.2.Au:=by
 unfold dQ at h;split at h;·rw[h];exact H
 ·exact xc (gI hk) (yQ _) H I h
theorem KY{k a b c:Int}(H:x.Au)(I:x.Inv N)(hca:a<9223372036854775808){y:bH}(h:Cq x k a b c y):y.2.Au:=by
 have hw:=I.w.hw;rcases o5 k with rfl|rfl|rfl|rfl|rfl|rfl|rfl|rfl|rfl|rfl|rfl|rfl|rfl|rfl|rfl|rfl|rfl|rfl|rfl|rfl|rfl|hk;·rw[show y=gw x a b from h];unfold gw;split<;>exact H
 ·change fm x a y at h;unfold fm at h;split at h;·exact xc (gI (show(1:Int)≠4 by decide)) (yQ _) H I h
  ·rw[h];exact H
 ·exact Cc bd H I (show dQ x 2 a y from h)
 ·exact Cc bd H I (show dQ x 3 a y from h)
 ·rw[show y=get x a b from h];refine tj H fun _=>?_;split;·exact H
  ·exact o9 H _
 ·rw[show y=set x a b c from h];refine tj H fun _=>Gd H fun _=>?_;split;·exact H
  ·rename_i h0;split;·exact H
   ·exact Ah.Gb hw I.w.q H (nt (by simpa using h0))
 ·rw[show y=put x a b c from h];refine tj H fun _=>?_;split;·exact H
  ·rename_i h0;split;·exact H
   ·exact Ah.Gb hw I.w.q H (nt (by simpa using h0))
 ·rw[show y=drop x a from h];exact H
 ·rw[show y=root x a b from h];exact Gd H fun _=>H
 ·rw[show y=take x a from h];unfold take;split;·exact H
  ·exact o9 H _
 ·change gq x a b c y at h;unfold gq at h;split at h;·rw[h];exact H
  ·split at h;·rw[h];exact H
   ·exact xc (mJ _ _ _) (FB _ _ _) H I h
 ·rw[show y=aC x a from h];refine tj H fun o=>?_;have J:Rt.Au {x with S:=(Rf.aC x.S o x.ck).2}:=Ah.aC hw H o I.ck.1;split;·exact H
  ·split;·exact H
   ·split;·exact H
    ·split;·exact H
     ·split;·exact H
      ·split;·exact J
       ·exact o9 J _
 ·rw[show y=clear x a from h];exact tj H fun o=>Ah.clear hw H [o]
 ·rw[show y=enqueue x a from h];exact tj H fun o=>Ah.dJ hw I.w.q H o
 ·rw[show y=lO x from h];unfold lO;show Ah x.S (if x.rows.length=8 then x.rows else x.rows++[[]]) x.ck;split;·exact H
  ·have e:(x.rows++[[]]).flatten=x.rows.flatten:=by simp
   exact⟨fun b hb hn=>H.lz b hb (by rw[←e];exact hn),fun b hb=>H.qz b (by rw[←e];exact hb),H.bw,H.st⟩
 ·rw[show y=jl x a from h];have J:Rt.Au {x with S:=Qu.dq x.S x.rows a,rows:=Qu.fK x.rows a}:=Ah.jl hw I.w.q H a;unfold jl;split;·exact H
  ·split;·exact H
   ·split;·exact H
    ·split;·exact J
     ·exact o9 J _
 ·rw[show y=final x a from h];exact tj H fun o=>Ah.final hw H o
 ·rw[show y=run x a b c from h];have J:Rt.Au {x with pe:=Fn.eX x.pe a}:=H;unfold run;split;·exact H
  ·split;·exact H
   ·split;·exact H
    ·split;·exact J
     ·split;·exact H
      ·split;·exact o9 J _
       ·exact J
 ·change cJ x a y at h;unfold cJ at h;split at h;·rw[h];exact H
  ·obtain⟨x',c1,rfl⟩:=h;exact s9 H I c1
 ·rw[show y=tick x a from h];unfold tick;split;·exact H
  ·apply Ah.later H;show x.ck≤Sf.later x.ck a;obtain⟨k0,k1⟩:=iK hca;have h0:=I.ck.1;have h1:=I.ck.2;have e:Sf.none x.ck=x.ck:=by unfold Sf.none;split<;>omega
   unfold Sf.later;omega
 ·rw[show y=count x a from h];unfold count;split<;>exact H
 ·rw[mM hk]at h;rw[h];exact H
end Rx
theorem Rt.KQ{pg ba stack:Int}(h:1≤pg∧pg≤256):(Rt.new pg ba stack).Au:=by
 have h0:1≤pg.toNat:=by omega
 have hd:=fun a=>uA h0 a;have hno:∀a,Qu.bR (Sp.ch pg.toNat) a=true→False:=fun a ha=>by obtain⟨hd',hh,_⟩:=bx ha;rw[hd]at hh;cases hh
 refine⟨fun a ha=>(hno a ha).elim,(fun a ha=>by cases ha),fun a h' hh=>?_,fun a ha=>(hno a ha).elim⟩;change Ob.head (Sp.ch pg.toNat) a=some h' at hh;rw[hd]at hh;cases hh
namespace CF
variable{x x':Rt}{all:Bool}{l:List da}{m2 m3:List Bool}{cl pu pn:List Int}
end CF
theorem vS{cs:List aX}:∀(l:List Int) {S:aJ} {rows:List (List Int)},aY S cs→Sp.each (Rf.cc S rows l).1=Sp.each S∧(∀b,Sp.find (Rf.cc S rows l).1 b=Sp.find S b)∧(Rf.cc S rows l).1.ws.length=S.ws.length
 |[],_,_,_=>⟨rfl,fun _=>rfl,rfl⟩
 |a::l,S,rows,hw=>by
  have p:∀{S:aJ},aY S cs→∀b i v,Sp.each (Ob.put S b i v).2=Sp.each S∧(∀c,Sp.find (Ob.put S b i v).2 c=Sp.find S c)∧(Ob.put S b i v).2.ws.length=S.ws.length:=fun hw b i v=>⟨tN hw b i v,tH _ b i v,iP _ b i v⟩;have tr:∀{S1 S2 S3:aJ},(Sp.each S2=Sp.each S1∧(∀c,Sp.find S2 c=Sp.find S1 c)∧S2.ws.length=S1.ws.length)→(Sp.each S3=Sp.each S2∧(∀c,Sp.find S3 c=Sp.find S2 c)∧S3.ws.length=S2.ws.length)→(Sp.each S3=Sp.each S1∧_∧S3.ws.length=S1.ws.length):=fun h g=>⟨g.1.trans h.1,fun c=>(g.2.1 c).trans (h.2.1 c),g.2.2.trans h.2.2⟩;have ps:∀{S:aJ},aY S cs→∀i v,Sp.each (Qu.bP S rows i v)=Sp.each S∧(∀c,Sp.find (Qu.bP S rows i v) c=Sp.find S c)∧(Qu.bP S rows i v).ws.length=S.ws.length:=fun{S} hw i v=>by
   unfold Qu.bP;split
   ·split;·exact p hw _ _ _
    ·exact tr (p hw v 2 0) (p (hw.put v 2 0) _ _ _)
   simp
  have e1:Sp.each (Rf.dJ S rows a).2.1=Sp.each S∧(∀c,Sp.find (Rf.dJ S rows a).2.1 c=Sp.find S c)∧(Rf.dJ S rows a).2.1.ws.length=S.ws.length:=by
   have hw1:=hw.put a 0 0;unfold Rf.dJ;split
   ·split;·exact p hw _ _ _
    ·split;·grind
     ·exact tr (tr (p hw a 0 0) (ps hw1 _ _)) (p (mQ hw1 _ _ _) _ _ _)
   simp
  exact tr e1 (vS l (BH hw _ a))
theorem zE{cs:List aX}:∀(l:List Int) {S:aJ},aY S cs→Sp.each (Rf.iu S l)=Sp.each S∧(∀b,Sp.find (Rf.iu S l) b=Sp.find S b)∧(Rf.iu S l).ws.length=S.ws.length
 |[],_,_=>⟨rfl,fun _=>rfl,rfl⟩
 |a::l,S,hw=>by obtain⟨h1,h2,h3⟩:=zE l (hw.put a 0 0);exact⟨h1.trans (tN hw a 0 0),fun b=>(h2 b).trans (tH S a 0 0 b),h3.trans (iP S a 0 0)⟩
theorem AI{cs:List aX}(l:List Int){S:aJ}(hw:aY S cs):Sp.each (Rf.clear S l).2=Sp.each S∧(∀b,Sp.find (Rf.clear S l).2 b=Sp.find S b)∧(Rf.clear S l).2.ws.length=S.ws.length:=by
 unfold Rf.clear;split;·exact zE l hw
 simp
namespace Fr
structure W(x:Rt)(N:Int):Prop where
 I:x.Inv N
 D:Rx.DS x
 A:x.Au
end Fr
namespace Rx
variable{x:Rt}{N:Int}
theorem uW{x':Rt}{all:Bool}(h:x.jF x' all):x'.rn=x.rn+1∧x'.hs=x.hs∧x'.cs=x.cs∧x'.ro=x.ro:=by obtain⟨z1,z2,l,m2,m3,hC,rfl⟩:=h;exact⟨rfl,rfl,rfl,rfl⟩
theorem C0{S:aJ}{cs:List aX}{rows:List (List Int)}(hw:aY S cs)(Q:QI S rows)(hq:QN S rows.length){a:Int}(hr:Qu.bR S a=true):(Rf.dJ S rows a).1.2=0:=by
 by_cases h1:(Ob.get S a 1).1≤0
 ·have hn:Rf.qn S a<1:=by unfold Rf.qn;rw[cR hw hr bd bd,if_neg bu];omega
  unfold Rf.dJ;rw[if_pos hr,if_pos hn]
 ·have h2:=hq a hr;have:=(Gv hw Q hr (i:=(Ob.get S a 1).1-1) ae ae ae).1;rw[this]
theorem FE{a j:Int}(h:(jC x a j).2.2=0):(Ob.get x.S a j).2=0:=by
 unfold jC at h;split at h;·cases h
 ·split at h;·cases h
  ·split at h;·rename_i g;exact absurd h g
   ·rename_i g;simpa using g
theorem Fe{S:aJ}{a j v:Int}(h:(Ob.get S a j).2=0):(Ob.put S a j v).1=0:=by
 have:(Ob.fieldAt S a j).2=0:=by
  unfold Ob.get at h;split at h;·exact h
  ·rename_i g;simpa using g
 unfold Ob.put;rw[if_neg (fun g=>g this)]
theorem GR(H:DS x)(I:x.Inv N)(h:Int)(o:Bool):0≤(fh x h o).1:=(H.2.fh h o).pos I.w.hw
end Rx
end
end Go.Proofs.YtjginndmmlkjiaaGreat
