import Derived.Test.YtjginndmmlkjiaaGreatGsSweep
set_option linter.unusedSimpArgs false
set_option linter.unusedVariables false
namespace Go.Proofs.YtjginndmmlkjiaaGreat
open Go Go.Gl
variable{ρ0 ρ:FR}{L L':List aD}{Post:Value→List aD→Prop}{T:Tree}
theorem oW:Gl.Spec ρ Zp 82 [] [] (.one (.l .slice)) fun r M=>r.n=5∧M=[aw r 1 (Sp.lU.map i64)]:=by exact So F.ah.vn.calls fun R=>aq fun b=>Tr.imp (A':=aw ⟨oA b,5,5⟩ 1 (Sp.lU.map _)) .here (aw.nI rfl)<|rT
theorem wL(w:Int):Gl.Spec ρ Zp 81 [i64 w] [] R1 fun r M=>r=Sp.cls w∧M=[]:=by
 refine So (F.ah.Class.calls w) fun R=>ai (oW) ar ?_;rintro s M ⟨hs,rfl⟩;refine Tr.cL tk fun ρ' hle hro=>aM (fun n u M=>(fun i:Int=>M=R∧0≤i∧i≤5∧n=5-i.toNat∧(i=0∨1≤w)∧(1≤w→Sp.cls w=Sp.BV w (Sp.lU.drop i.toNat) i)) u.1) 5 ?_ ?_;·refine⟨rfl,bu,bu,bu,.inl rfl,fun h=>?_⟩;unfold Sp.cls;rw[if_neg ae];rfl
 ·rintro n ⟨(i:Int),⟨⟩⟩ M ⟨rfl,h0,h1,rfl,hz,hc⟩ X hX;refine ag (fun h2=>?_) (fun h2=>?_)
  ·replace h2:i<(s.n:Int):=oT h2;refine ag (fun h4=>?_) (fun h4=>?_)
   ·replace h4:w≥1:=oT h4;have hc:=hc h4;have hi:i.toNat<Sp.lU.length:=by show i.toNat<5;omega
    refine bz hro h0 h2 fun a0 ha=>cu ha hro fX (getD_map hi) ?_;rw[hE 0 hi]at hc;unfold Sp.BV at hc;refine ag (fun h3=>?_) (fun h3=>?_);·rw[if_pos (oT h3)]at hc;refine ax ?_ ⟨rfl,rfl⟩ ar bE;rw[hc];rfl
    ·rw[if_neg (oF h3)]at hc;rw[bG];refine hX _ _ _ (by omega) ⟨rfl,bq,by omega,rfl,.inr h4,fun _=>?_⟩;rw[hc,show(i+1).toNat=i.toNat+1 by omega]
   ·replace h4:¬w≥1:=oF h4;have:Sp.cls w= -1:=by unfold Sp.cls;rw[if_pos ae]
    rw[this];exact rT
  ·replace h2:¬i<(s.n:Int):=oF h2;have:i=5:=by omega
   subst this;have hc:=hc ae;refine ax ?_ ⟨rfl,rfl⟩ ar bE;rw[hc];rfl
theorem C8(w:Int):Gl.Spec ρ Zp 34 [i64 w] [] R1 fun r M=>r=Sp.au w∧M=[]:=by
 refine So (F.ah.Block.calls w) fun R=>cE (wL w) ?_;have hcc:=Sp.kX w;refine ag (fun h=>?_) (fun h=>?_);·replace h:Sp.cls w≥0:=oT h;apply ai (oW) ar;rintro s M ⟨hs,rfl⟩;refine bD tk h (by omega) fun a0 ha=>cw (j:=(Sp.cls w).toNat) ha tk fX (getD_map (by show _<5;omega))<|ax ?_ ⟨rfl,rfl⟩ ar bE;rw[Sp.au,if_pos h];rfl
 ·replace h:¬Sp.cls w≥0:=oF h;have e:Sp.au w=Sp.pj w*64:=by rw[Sp.au,if_neg h]
  refine ag (fun h1=>?_) (fun h1=>?_);·have h1:=oT h1;refine ax ?_ ⟨rfl,rfl⟩ ar bE;rw[e,Sp.pj,if_pos (.inl h1)];rfl
  ·have h1:=oF h1;refine ag (fun h2=>?_) (fun h2=>?_);·have h2:=oT h2;refine ax ?_ ⟨rfl,rfl⟩ ar bE;rw[e,Sp.pj,if_pos (.inr (.inl h2))];rfl
   ·have h2:=oF h2;apply bm bd;have e2:Sp.pj w=(w+63)/64:=by rw[Sp.pj,if_neg (by rintro _<;>omega)]
    rw[wrap64 (n:=w+64) ae ae,wrap64 (n:=w+64-1) ae ae,Int.tdiv_eq_ediv_of_nonneg ae,wrap64 (n:=(w+64-1)/64) ae ae,bG];refine ax ?_ ⟨rfl,rfl⟩ ar bE;congr 1;omega
abbrev bY(q:av):Value:= .slice q.a q.n q.c
abbrev kW:av:=⟨none,0,0⟩
theorem _root_.Go.Gl.Tr.vy{s:av}{xs:List Value}(t:Take L (aw s 1 xs) L')(h:s.n=xs.length→Tr ρ0 ρ L T Post):Tr ρ0 ρ L T Post:=
 Tr.fA t fun h1 _=>h (by simpa using h1.symm)
theorem DC{α:Type}{f:α→Value}{xs:List α}{i:Nat}(d:α)(h:i<xs.length):(xs.map f)[i]? =some (f (xs.getD i d)):=by grind
theorem jO{s:av}{xs:List Bool}{i:Int}{f:Bool→Tree}(t:Take L (aw s 1 (xs.map bv)) L')(h0:0≤i)(h1:i<xs.length)(h:Tr ρ0 ρ L (f (xs.getD i.toNat false)) Post):
  Tr ρ0 ρ L (ix s.a s.n i 1 fun a=>ld (.l .bool) a f) Post:=by refine Tr.vy t fun hn=>?_;rw[List.length_map]at hn;exact bD t h0 ae fun a0 ha=>cw ha t fX (qi ae) h
theorem qB{s:av}{xs:List Bool}{i:Int}{v:Bool}{k:Tree}(t:Take L (aw s 1 (xs.map bv)) L')(h0:0≤i)(h1:i<xs.length)(h:Tr ρ0 ρ (aw s 1 ((xs.set i.toNat v).map bv)::L') k Post):
  Tr ρ0 ρ L (ix s.a s.n i 1 fun a=>st a [.bool v] k) Post:=by refine Tr.vy t fun hn=>?_;rw[List.length_map]at hn;refine bD t h0 ae fun a0 ha=>iR (j:=i.toNat) ha t fX fC rfl ?_;rw[show cH (xs.map bv) i.toNat [.bool v]=(xs.set i.toNat v).map bv by simp[cH,List.map_set]];exact h
theorem kr{s:av}{xs:List av}{i:Int}{f:av→Tree}(t:Take L (aw s 1 (xs.map bY)) L')(h0:0≤i)(h1:i<xs.length)(h:Tr ρ0 ρ L (f (xs.getD i.toNat kW)) Post):
  Tr ρ0 ρ L (ix s.a s.n i 1 fun a=>ld (.l .slice) a f) Post:=by refine Tr.vy t fun hn=>?_;rw[List.length_map]at hn;exact bD t h0 ae fun a0 ha=>cw ha t fX (DC _ ae) h
theorem CJ{s v:av}{xs:List av}{i:Int}{k:Tree}(t:Take L (aw s 1 (xs.map bY)) L')(h0:0≤i)(h1:i<xs.length)(h:Tr ρ0 ρ (aw s 1 ((xs.set i.toNat v).map bY)::L') k Post):
  Tr ρ0 ρ L (ix s.a s.n i 1 fun a=>st a [.slice v.a v.n v.c] k) Post:=by refine Tr.vy t fun hn=>?_;rw[List.length_map]at hn;refine bD t h0 ae fun a0 ha=>iR (j:=i.toNat) ha t fX fC rfl ?_;rw[show cH (xs.map bY) i.toNat [.slice v.a v.n v.c]=(xs.set i.toNat v).map bY by simp[cH,List.map_set]];exact h
theorem fv{α:Type}{l l':List α}(d:α)(hl:l.length=l'.length)(h:∀j,j<l.length→l.getD j d=l'.getD j d):l=l':=by refine List.ext_getElem hl fun j h1 h2=>?_;grind
theorem _root_.Go.Gl.Sat.sub{L M R:List aD}{w:World}(t:aI L M R)(h:Sat ρ L w):Sat ρ M w:=((h.perm t.perm).perm List.perm_append_comm).tS
theorem vO{M M':List aD}{s:av}{xs:List Int}{i:Int}{f:Int→Tree}(t0:Take L (aw s 1 (xs.map i64)) L')(t:Take M (aw s 1 (xs.map i64)) M')(h0:0≤i)(h1:i<xs.length)(h:Tr ρ0 ρ L (f (xs.getD i.toNat 0)) Post):
  Tr ρ0 ρ L (ix s.a s.n i 1 fun a=>rb (Sat ρ M) (.l kI) a f) Post:=by
 refine Tr.fu t0 fun hn=>bD t0 h0 ae fun a0 ha=>?_;intro hle w hw;refine⟨xs.getD _ 0,fun w' hw'=>?_,h hle w hw⟩;rcases(hw'.perm t.perm).sl with ⟨g1,_⟩|⟨b,off,pre,rest,g1,g2,g3,g4,g5,g6⟩;·rw[ha]at g1;cases g1
 ·rw[ha]at g1;injection g1 with g1;obtain⟨ty,hb⟩:=g6.cl;rw[g1,aO,Nat.mul_one];apply cell_of hb;rw[List.getElem?_toArray,←g2,m8 fC];exact getD_map ae
theorem xr(s:av)(l:List Bool)(is:Bool)(hl:l.length≤16384):Gl.Spec ρ Zp 278 [bY s,i64 0,bv is] [aw s 1 (l.map bv)] R1 fun r M=>r=Sp.next l 0 is∧M=[aw s 1 (l.map bv)]:=by
 refine So (F.ah.Bits.Next.calls s 0 _) fun R=>Tr.vy tk fun hn=>?_;rw[List.length_map]at hn;refine aM (fun n u M=>(fun i:Int=>M=aw s 1 (l.map bv)::R∧0≤i∧n=l.length-i.toNat∧Sp.qJ l is n i.toNat=Sp.next l 0 is) u.1) l.length ?_ ?_;·exact⟨rfl,by decide,rfl,rfl⟩
 ·rintro n ⟨(i:Int),⟨⟩⟩ M ⟨rfl,h0,rfl,hN⟩ X hX;refine ag (fun h=>?_) (fun h=>?_)
  ·replace h:i<(s.n:Int):=oT h;obtain⟨k,hk⟩:∃k,l.length-i.toNat=k+1:=⟨l.length-i.toNat-1,ae⟩;rw[hk]at hN hX;unfold Sp.qJ at hN;refine jO tk h0 ae<|ag (fun h2=>?_) (fun h2=>?_);·rw[if_pos ⟨ae,eq_of_beq h2⟩]at hN;refine ax ?_ ⟨rfl,rfl⟩ ar bE;simp[RK.val,KD.val,LK.val];omega
   ·rw[if_neg (by rintro⟨_,h3⟩;rw[h3]at h2;simp at h2)]at hN;rw[bG (n:=i+1)];refine hX k _ _ ae ⟨rfl,bq,bq,?_⟩;rw[←hN];congr 1;omega
  ·replace h:¬i<(s.n:Int):=oF h;rw[show l.length-i.toNat=0 by omega]at hN;refine ax ?_ ⟨rfl,rfl⟩ ar bE;rw[←hN];rfl
theorem z8{l:List Bool}{k:Nat}(hk:k<l.length):(l.take (k+1)).count true=(l.take k).count true+if l.getD k false then 1 else 0:=by rw[aE false hk,List.count_append];grind
theorem Ec(s:av)(l:List Bool)(hl:l.length≤16384):Gl.Spec ρ Zp 241 [bY s] [aw s 1 (l.map bv)] R1 fun r M=>r=(l.count true:Nat)∧M=[aw s 1 (l.map bv)]:=by
 refine So (F.ah.Bits.Count.calls s) fun R=>Tr.vy tk fun hn=>?_;rw[List.length_map]at hn;refine aM (fun n u M=>(fun c i:Int=>M=aw s 1 (l.map bv)::R∧0≤i∧i≤l.length∧n=l.length-i.toNat∧c=((l.take i.toNat).count true:Nat)) u.1 u.2.1) l.length ?_ ?_;·exact⟨rfl,by decide,bq,rfl,rfl⟩
 ·rintro n ⟨(c:Int),(i:Int),⟨⟩⟩ M ⟨rfl,h0,h1,rfl,hc⟩ X hX;dsimp only at*;subst hc;refine ag (fun h=>?_) (fun h=>?_)
  ·replace h:i<(s.n:Int):=oT h;apply jO tk h0 ae;have hct:=z8 (l:=l) (k:=i.toNat) ae;have hle:=List.count_le_length (a:=true) (l:=l.take i.toNat);have hlt:=List.length_take_le i.toNat l;rw[wrap64 (n:=i+1) ae ae,wrap64 (n:=(((l.take i.toNat).count true:Nat):Int)+1) ae ae];refine ag (fun h2=>?_) (fun h2=>?_);·rw[h2]at hct;exact hX (l.length-(i+1).toNat) _ _ ae ⟨rfl,bq,bq,rfl,by rw[show(i+1).toNat=i.toNat+1 by omega,hct];rfl⟩
   ·rw[h2]at hct;exact hX (l.length-(i+1).toNat) _ _ ae ⟨rfl,bq,bq,rfl,by rw[show(i+1).toNat=i.toNat+1 by omega,hct];rfl⟩
  ·replace h:¬i<(s.n:Int):=oF h;rw[List.take_of_length_le ae];exact rT
theorem Gp(s:av)(l:List Bool)(i k:Nat)(hik:i+k≤l.length)(hl:l.length≤16384):Gl.Spec ρ Zp 308 [bY s,i64 i,i64 k] [aw s 1 (l.map bv)] RB
  fun r M=>r=Sp.fG l i k∧M=[aw s 1 (l.map bv)]:=by
 refine So (F.ah.Bits.clear.calls s i k) fun R=>?_;unfold F.ah.Bits.clear;rw[bG (n:=(i:Int)+k)];refine aM (fun n u M=>(fun j:Int=>M=aw s 1 (l.map bv)::R∧i≤j∧j≤i+k∧n=i+k-j.toNat∧∀x:Nat,i≤x→x<j.toNat→l.getD x false=false) u.1) k ?_ ?_;·exact⟨rfl,bq,bq,bq,fun x h1 h2=>by omega⟩
 ·rintro n ⟨(j:Int),⟨⟩⟩ M ⟨rfl,h0,h1,rfl,hx⟩ X hX;refine ag (fun h=>?_) (fun h=>?_)
  ·replace h:j<(i:Int)+k:=oT h;refine jO tk ae ae<|ag (fun h2=>?_) (fun h2=>?_)
   ·have:Sp.fG l i k=false:=by
     cases hc:Sp.fG l i k with
     |false=>rfl
     |true=>rw[Sp.jI.mp hc j.toNat ae ae]at h2;cases h2
    rw[this];exact rT
   ·rw[bG (n:=j+1)];refine hX _ _ _ ae ⟨rfl,bq,bq,rfl,fun x g1 g2=>?_⟩;rcases Nat.lt_or_ge x j.toNat with c|c;·exact hx x g1 c
    ·have:x=j.toNat:=by omega
     rw[this];exact h2
  ·replace h:¬j<(i:Int)+k:=oF h;have:Sp.fG l i k=true:=Sp.jI.mpr fun x g1 g2=>hx x g1 ae;rw[this];exact rT
theorem Fw(s:av)(l:List Bool)(k:Nat)(hk:1≤k)(hk2:k<10000)(hl:l.length≤16384):Gl.Spec ρ Zp 276 [bY s,i64 0,i64 k] [aw s 1 (l.map bv)] R1
  fun r M=>r=Sp.oI (Sp.run l k)∧M=[aw s 1 (l.map bv)]:=by
 refine So (F.ah.Bits.Ea.calls s 0 k) fun R=>Tr.vy tk fun hn=>?_;rw[List.length_map]at hn;refine ak (decide_eq_false ae) (ag (fun h=>?_) (fun h=>?_));·replace h:(k:Int)>(s.n:Nat):=oT h;rw[Sp.uz fun j hj=>by omega];exact rT
 ·replace h:¬(k:Int)>(s.n:Nat):=oF h;rw[bG (n:=((s.n:Nat):Int)-k)];refine aM (fun n u M=>(fun i:Int=>M=aw s 1 (l.map bv)::R∧0≤i∧i≤l.length-k+1∧n=l.length+1-i.toNat∧∀j:Nat,j<i.toNat→Sp.fG l j k=false) u.1) (l.length+1) ?_ ?_;·exact⟨rfl,by decide,by simp;omega,rfl,fun j hj=>by simp at hj⟩
  ·rintro n ⟨(i:Int),⟨⟩⟩ M ⟨rfl,h0,h1,rfl,hx⟩ X hX;refine ag (fun h2=>?_) (fun h2=>?_)
   ·replace h2:i≤((s.n:Nat):Int)-k:=oT h2;obtain⟨m,rfl⟩:=Int.eq_ofNat_of_zero_le h0;refine cE (Gp s l m k ae hl)<|ag (fun h3=>?_) (fun h3=>?_);·rw[Sp.yC ae h3 (fun j hj=>hx j ae)];exact rT
    ·rw[bG (n:=(m:Int)+1)];refine hX _ _ _ ae ⟨rfl,bq,bq,rfl,fun j hj=>?_⟩;rcases Nat.lt_or_ge j m with c|c;·exact hx j ae
     ·have:j=m:=by omega
      rw[this];exact h3
   ·replace h2:¬i≤((s.n:Nat):Int)-k:=oF h2;rw[Sp.uz fun j hj=>hx j ae];exact rT
def Pg.bits:Pg→List Bool| .small _ l=>l|_=>[]
def Pg.kind:Pg→Int| .res=> -1| .free=>0| .small c _=>c+1| .head _=>6| .tail=>7
def Pg.many:Pg→Int| .head k=>k|_=>0
def Ae(x:List Bool×av):aD:=aw x.2 1 (x.1.map bv)
theorem E5{bl:List (List Bool)}{ql:List av}{i:Nat}(hl:ql.length=bl.length)(hi:i<bl.length):bl.zip ql=(bl.zip ql).take i++(bl.getD i [],ql.getD i kW)::(bl.zip ql).drop (i+1):=by
 have hz:i<(bl.zip ql).length:=by simp;omega
 conv=>lhs;rw[←List.take_append_drop i (bl.zip ql),List.drop_eq_getElem_cons hz]
 grind
theorem Ib{bl:List (List Bool)}{ql:List av}{i:Nat}(hl:ql.length=bl.length)(hi:i<bl.length)(b:List Bool)(q:av):(bl.set i b).zip (ql.set i q)=(bl.zip ql).take i++(b,q)::(bl.zip ql).drop (i+1):=by
 have hz:i<(bl.zip ql).length:=by simp;omega
 have e:(bl.set i b).zip (ql.set i q)=(bl.zip ql).set i (b,q):=by refine List.ext_getElem bu fun j h1 h2=>?_;grind
 rw[e,List.set_eq_take_append_cons_drop,if_pos hz]
theorem wk{bl:List (List Bool)}{ql:List av}{i:Nat}(hl:ql.length=bl.length)(hi:i<bl.length)(t:Take L (star ((bl.zip ql).map Ae)) L')
  (h:Tr ρ0 ρ (aw (ql.getD i kW) 1 ((bl.getD i []).map bv)::star (((bl.zip ql).take i++(bl.zip ql).drop (i+1)).map Ae)::L') T Post):Tr ρ0 ρ L T Post:=by
 have t':Take L (star (((bl.zip ql).take i++(bl.getD i [],ql.getD i kW)::(bl.zip ql).drop (i+1)).map Ae)) L':=by rw[←E5 hl hi];exact t
 exact Tr.HA t' h
theorem Ce{bl:List (List Bool)}{ql:List av}{i:Nat}{R:List aD}{b:List Bool}{q:av}(hl:ql.length=bl.length)(hi:i<bl.length)
  (t:aI L [aw q 1 (b.map bv),star (((bl.zip ql).take i++(bl.zip ql).drop (i+1)).map Ae)] R) (h:Tr ρ0 ρ (star (((bl.set i b).zip (ql.set i q)).map Ae)::R) T Post):Tr ρ0 ρ L T Post:=
 Tr.close t (fun hp H=>by rw[Ib hl hi];exact dR _ H) h
theorem uG{bl:List (List Bool)}{ql:List av}{i:Nat}{R:List aD}(hl:ql.length=bl.length)(hi:i<bl.length)
  (t:aI L [aw (ql.getD i kW) 1 ((bl.getD i []).map bv),star (((bl.zip ql).take i++(bl.zip ql).drop (i+1)).map Ae)] R) (h:Tr ρ0 ρ (star ((bl.zip ql).map Ae)::R) T Post):Tr ρ0 ρ L T Post:=
 Tr.close t (fun hp H=>by rw[E5 hl hi];exact dR _ H) h
def ay(p:Nat)(S:aJ):aD:=fun h=>∃i:(av×av×av×av)×List av,i.2.length=S.pg.length∧
 star [au p [bY i.1.1,bY i.1.2.1,bY i.1.2.2.1,bY i.1.2.2.2],aw i.1.1 1 (S.ws.map i64),aw i.1.2.1 1 ((S.pg.map Pg.kind).map i64),aw i.1.2.2.1 1 ((S.pg.map Pg.many).map i64),aw i.1.2.2.2 1 (i.2.map bY),star (((S.pg.map Pg.bits).zip i.2).map Ae)] h
theorem ay.op{p:Nat}{S:aJ}(t:Take L (ay p S) L') (h:∀(a k m q:av) (ql:List av),ql.length=S.pg.length→
  Tr ρ0 ρ (au p [bY a,bY k,bY m,bY q]::aw a 1 (S.ws.map i64)::aw k 1 ((S.pg.map Pg.kind).map i64)::aw m 1 ((S.pg.map Pg.many).map i64)::aw q 1 (ql.map bY)::star (((S.pg.map Pg.bits).zip ql).map Ae)::L') T Post):Tr ρ0 ρ L T Post:=
 Tr.iW (M:=fun i:(av×av×av×av)×List av=>[au p [bY i.1.1,bY i.1.2.1,bY i.1.2.2.1,bY i.1.2.2.2],aw i.1.1 1 (S.ws.map i64),aw i.1.2.1 1 ((S.pg.map Pg.kind).map i64),aw i.1.2.2.1 1 ((S.pg.map Pg.many).map i64),aw i.1.2.2.2 1 (i.2.map bY),star (((S.pg.map Pg.bits).zip i.2).map Ae)]) t (fun _ h=>h) fun i hi=>h i.1.1 i.1.2.1 i.1.2.2.1 i.1.2.2.2 i.2 hi
theorem ay.cl{p:Nat}{S:aJ}{a k m q:av}{ql:List av}(hl:ql.length=S.pg.length)(h:HP)
  (H:star [au p [bY a,bY k,bY m,bY q],aw a 1 (S.ws.map i64),aw k 1 ((S.pg.map Pg.kind).map i64),aw m 1 ((S.pg.map Pg.many).map i64),aw q 1 (ql.map bY),star (((S.pg.map Pg.bits).zip ql).map Ae)] h):ay p S h:=⟨((a,k,m,q),ql),hl,H⟩
theorem oM{pg:List Pg}{i:Nat}{x:Pg}(h:pg[i]? =some x):(pg.map Pg.kind).getD i 0=x.kind:=by grind
theorem uq{pg:List Pg}{i:Nat}{x:Pg}(h:pg[i]? =some x):(pg.map Pg.many).getD i 0=x.many:=by grind
theorem kQ{pg:List Pg}{i:Nat}{x:Pg}(h:pg[i]? =some x):(pg.map Pg.bits).getD i []=x.bits:=by grind
theorem yw(p:Nat)(S:aJ)(hw:Wf S):Gl.Spec ρ Zp 275 [pA p] [ay p S] RS fun r M=>M=[aw r 1 ((S.pg.map Pg.taken).map bv),ay p S]:=by
 have hmost:=hw.fF;refine So (F.ah.aV.fN.calls _) fun R=>af (ay.op tk fun a k m q ql hql=>?_);refine iL<|Tr.fu (s:=k) tk fun hk=>?_;rw[List.length_map]at hk;refine mg (e:=4) (m:=1) (bytes:=1) (z:= .bool false) (by kernel_rfl) (by kernel_rfl) rfl ae ae ae fun b=>?_;have e:(List.replicate ((k.n:Nat):Int).toNat (Value.cells (.bool false)).toList).flatten=(List.replicate S.pg.length false).map bv:=by rw[show(Value.cells (.bool false)).toList=[bv false]from rfl,z6,Int.toNat_natCast,hk];simp
 rw[e,Int.toNat_natCast];refine tC (ay.cl hql) ?_;refine Tr.take (A:=aw ⟨oA b,k.n,k.n⟩ 1 _) tk<|aM (fun n u M=>(fun i:Int=>∃bs:List Bool,M=aw ⟨oA b,k.n,k.n⟩ 1 (bs.map bv)::ay p S::R∧0≤i∧i≤S.pg.length∧n=S.pg.length-i.toNat∧bs.length=S.pg.length∧∀j:Nat,j<i.toNat→bs.getD j false=(S.pg.map Pg.taken).getD j false) u.1) S.pg.length ?_ ?_;·exact⟨List.replicate _ false,rfl,bu,bq,bu,bu,fun j hj=>by simp at hj⟩
 ·rintro n ⟨(i:Int),⟨⟩⟩ M ⟨bs,rfl,h0,h1,rfl,hbl,hbs⟩ X hX;refine ag (fun h=>?_) (fun h=>?_)
  ·replace h:i<(k.n:Int):=oT h;have hi:i.toNat<S.pg.length:=by omega
   have hx:=List.getElem?_eq_getElem hi;have htk:(S.pg.map Pg.taken).getD i.toNat false=(S.pg[i.toNat]).taken:=by rw[List.getD_eq_getElem?_getD,List.getElem?_map,hx];rfl
   generalize S.pg[i.toNat]=x at hx htk;refine af (ay.op tk fun a' k' m' q' ql' hql'=>?_);refine iL ?_;apply bt tk h0 (by rw[List.length_map];omega);rw[oM hx];have hkt:(x.kind != 0)=x.taken:=by
    cases x with
    |small c l=>simp[Pg.kind,Pg.taken];omega
    |_=>rfl
   rw[hkt];refine qB tk h0 ae<|Tr.close ar (ay.cl hql') ?_;rw[bG (n:=i+1)];refine Tr.take (A:=aw ⟨oA b,k.n,k.n⟩ 1 _) tk<|hX _ _ _ ae ⟨_,rfl,bq,bq,rfl,by simp[hbl],fun j hj=>?_⟩;rw[List.getD_eq_getElem?_getD,List.getElem?_set];by_cases hij:i.toNat=j;·rw[if_pos hij,if_pos ae,←hij,htk];rfl
   ·rw[if_neg hij,←List.getD_eq_getElem?_getD];exact hbs j ae
  ·replace h:¬i<(k.n:Int):=oF h;have e2:=fv false (by simp[hbl]) fun j hj=>hbs j ae;rw[e2];exact rT rfl
theorem F2{ws:List Int}{i m:Nat}(h:i+m<ws.length):(Sp.iu ws i m).set (i+m) 0=Sp.iu ws i (m+1):=by
 refine fv 0 (by rw[List.length_set,lY ae,lY ae]) fun j hj=>?_;rw[nO ae];by_cases hij:i+m=j;·grind
 ·rw[ft hij,nO ae];omega
theorem Hh{ws:List Int}{i:Nat}(h:i≤ws.length):Sp.iu ws i 0=ws:=by unfold Sp.iu;simp
theorem Cy(p:Nat)(S:aJ)(i n:Nat)(hl:i+n≤S.ws.length)(hm:S.ws.length≤2^40):Gl.Spec ρ Zp 277 [pA p,i64 i,i64 n] [ay p S] (.many [])
  fun r M=>M=[ay p ⟨Sp.iu S.ws i n,S.pg⟩]:=by
 refine So (F.ah.aV.fill.calls _ i n) fun R=>?_;unfold F.ah.aV.fill;try simp only[c8,c9]
 rw[bG (n:=(i:Int)+n)];refine aM (fun m u M=>(fun j:Int=>M=ay p ⟨Sp.iu S.ws i (j.toNat-i),S.pg⟩::R∧i≤j∧j≤i+n∧m=i+n-j.toNat) u.1) n ?_ ?_;·refine⟨?_,bq,bq,bq⟩;rw[show(i:Int).toNat-i=0 by omega,Hh ae]
 ·rintro m ⟨(j:Int),⟨⟩⟩ M ⟨rfl,h0,h1,rfl⟩ X hX;refine ag (fun h=>?_) (fun h=>?_)
  ·replace h:j<(i:Int)+n:=oT h;refine af (ay.op tk fun a k m q ql hql=>?_);refine iL ?_;have hcl:(Sp.iu S.ws i (j.toNat-i)).length=S.ws.length:=lY ae;apply dr (xs:=Sp.iu _ i (j.toNat-i)) tk ae ae;have e:(Sp.iu S.ws i (j.toNat-i)).set j.toNat 0=Sp.iu S.ws i ((j+1).toNat-i):=by have:=F2 (ws:=S.ws) (i:=i) (m:=j.toNat-i) ae;rw[show i+(j.toNat-i)=j.toNat by omega]at this;rw[this];congr 1;omega
   rw[e];refine tC (ay.cl (S:=⟨Sp.iu _ i ((j+1).toNat-i),S.pg⟩) hql) ?_;rw[bG (n:=j+1)];exact hX _ _ _ ae ⟨rfl,bq,bq,rfl⟩
  ·replace h:¬j<(i:Int)+n:=oF h;rw[show j.toNat-i=n by omega];exact rT rfl
abbrev FD:RK:= .one (.g [kI,kI,.bool])
abbrev G2:RK:= .one (.g [kI,kI])
def Rf.Lq:Option (Nat×Nat)→RT FD
 |some (s,w)=>((s:Int),(w:Int),true,())|none=>((0:Int),(0:Int),false,())
theorem LX:zc Zp 186=[.int .i64 0,.int .i64 0,.bool false]:=by kernel_rfl
theorem gk:zc Zp 100=[.int .i64 0,.int .i64 0]:=by kernel_rfl
theorem I9{S:aJ}(hw:Wf S){P q:Nat}(hq:q≤P)(ht:∀j:Nat,q<j→j≤P→S.pg[j]? =some .tail){x:Pg}(hx:S.pg[q]? =some x)(hxt:x≠.tail):
  Sp.own S.pg P=(match x with | .head k=>some (q,k)|_=>none):=by
 have key:∀i k:Nat,S.pg[i]? =some (.head k)→i≤P→P<i+k→i=q:=fun i k hi h1 h2=>by
  rcases Nat.lt_trichotomy i q with c|c|c;·have:=(hw.head i k hi).2.2.2 q c (by omega);grind
  ·exact c
  grind
 cases x with
 |head k=>
  dsimp only;have hk:=hw.head q k hx;rcases Nat.lt_or_ge q P with c|c;·obtain⟨i,k',h1,h2,h3⟩:=hw.tail P (ht P c (Nat.le_refl _));have:=key i k' h1 (by omega) h3;subst this;exact Sp.ov hw h1 ⟨by omega,h3⟩ |>.trans (by grind)
  ·exact Sp.ov hw hx ⟨hq,ae⟩
 |_=>refine Sp.uZ fun i k hi hc=>?_;grind
theorem tc(p:Nat)(S:aJ)(hw:Wf S)(a:Int):Gl.Spec ρ Zp 135 [pA p,i64 a] [ay p S] FD
  fun r M=>r=Rf.Lq (Sp.find S a)∧M=[ay p S]:=by
 have hmost:=hw.fF;have hlen:=hw.len;refine So (F.ah.aV.Find.calls _ a) fun R=>aq fun b1=>?_;rw[LX];have fin:∀(x y:Int) (z:Bool),Rf.Lq (Sp.find S a)=(x,y,z,())→Tr ρ ρ (au b1 [.int .i64 0,.int .i64 0,.bool false]::ay p S::R)
   (st ⟨b1,0,none⟩ [.int .i64 x,.int .i64 y,.bool z]<|ld (.g [kI,kI,.bool]) ⟨b1,0,none⟩ fun(x:LTs [kI,kI,.bool])=>ret (.agg #[.int .i64 x.1,.int .i64 x.2.1,.bool x.2.2.1]))
   (SP FD (fun r M=>r=Rf.Lq (Sp.find S a)∧M=[ay p S]) R):=fun x y z hf=>by refine iT ?_;refine aN (x:=(x,y,z,())) [] rfl tk rfl ?_;rw[hf];exact rT
 refine ag (fun h=>?_) (fun h=>?_);·replace h:a<0:=oT h;exact fin 0 0 _ (by rw[Sp.iH ae];rfl)
 ·replace h:¬a<0:=oF h;refine af (ay.op tk fun sa sk sm sq ql hql=>?_);refine iL<|Tr.fu tk fun hsa=>ag (fun h2=>?_) (fun h2=>?_);·replace h2:a≥(sa.n:Int):=oT h2;refine tC (ay.cl hql) ?_;exact Tr.take (A:=au _ [.int _ 0,.int _ 0,.bool false]) tk<|fin 0 0 _ (by rw[Sp.iH ae];rfl)
  ·replace h2:¬a≥(sa.n:Int):=oF h2;obtain⟨n,rfl⟩:=Int.eq_ofNat_of_zero_le (show 0≤a by omega);have hn:n<S.ws.length:=by omega
   have hP:n/64<S.pg.length:=by omega
   have hw1:IntKind.wrap .i64 (Int.tdiv n 64)=((n/64:Nat):Int):=by rw[Int.tdiv_eq_ediv_of_nonneg ae,bG];omega
   have hw2:Int.tmod n 64=((n%64:Nat):Int):=by rw[Int.tmod_eq_emod_of_nonneg ae];omega
   rw[hw1,hw2];refine bm bd (af ?_);refine iL ?_;apply bt tk ae fC;have hx:=List.getElem?_eq_getElem hP;rw[Int.toNat_natCast,oM hx];refine tC (ay.cl hql) ?_;refine Tr.take (A:=au _ [.int _ 0,.int _ 0,.bool false]) tk ?_;generalize S.pg[n/64]=x at hx;refine iV (fun _ M=>(∀c l,x≠.small c l)∧M=au b1 [.int .i64 0,.int .i64 0,.bool false]::ay p S::R) ?_ ?_
   ·rintro⟨⟩ M ⟨hns,rfl⟩;have hfo:=Sp.fb hn (fun c l h=>by rw[hx]at h;injection h with h;exact hns c l h);refine aM (fun m u M=>(fun q:Int=>M=au b1 [.int .i64 0,.int .i64 0,.bool false]::ay p S::R∧0≤q∧q≤((n/64:Nat):Int)∧m=q.toNat∧∀j:Nat,q.toNat<j→j≤n/64→S.pg[j]? =some .tail) u.1) (n/64) ?_ ?_;·exact⟨rfl,bq,bq,bq,fun j h1 h2=>by omega⟩
    ·rintro m ⟨(q:Int),⟨⟩⟩ M ⟨rfl,q0,q1,rfl,ht⟩ X hX;have hy:S.pg[q.toNat]? =some S.pg[q.toNat]:=List.getElem?_eq_getElem ae;generalize S.pg[q.toNat]=y at hy;refine ag (fun h3=> ?g1) (fun h3=> ?g2);case' g1=>
      replace h3:q>0:=oT h3;refine af (ay.op tk fun sa sk sm sq ql hql=>?_);refine iL ?_;apply bt tk ae fC;rw[oM hy];refine tC (ay.cl hql) ?_;refine Tr.take (A:=au _ [.int _ 0,.int _ 0,.bool false]) tk<|ag (fun h7=> ?g3) (fun h7=>?_);case g3=>
       rw[bG (n:=q-1)];refine hX (q-1).toNat _ _ ae ⟨rfl,bq,bq,rfl,fun j h1 h2=>?_⟩;by_cases hj:j=q.toNat
       ·rw[hj,hy];cases y with
        |tail=>rfl
        |small c l=>have:=(hw.small _ _ _ hy).1;simp[Pg.kind]at h7;omega
        |_=>simp[Pg.kind]at h7
       ·exact ht j ae h2
      have hyt:y≠.tail:=by rintro rfl;simp[Pg.kind]at h7
     case' g2=>replace h3:¬q>0:=oF h3;have hyt:y≠.tail:=by rintro rfl;have h0:=(hw.res 0).mpr rfl;rw[show q.toNat=0 by omega,h0]at hy;cases hy
     all_goals
      have hb:=I9 hw ae ht hy hyt;rw[hb]at hfo;refine af (ay.op tk fun sa sk sm sq ql hql=>?_);refine iL ?_;apply bt tk ae fC;rw[oM hy];refine ag (fun h6=>?_) (fun h6=>?_)
      ·refine tC (ay.cl hql) ?_;refine Tr.take (A:=au _ [.int _ 0,.int _ 0,.bool false]) tk<|fin 0 0 _ ?_;rw[hfo];cases y with
       |head k=>simp[Pg.kind]at h6
       |_=>rfl
      ·obtain⟨k,rfl⟩:∃k,y= .head k:=by
        cases y with
        |head k=>exact⟨k,rfl⟩
        |small c l=>have:=(hw.small _ _ _ hy).1;simp[Pg.kind]at h6;omega
        |_=>simp[Pg.kind]at h6
       have hk:=hw.head _ _ hy;refine af<|iL ?_;apply bt tk ae fC;rw[uq hy];refine tC (ay.cl hql) ?_;refine Tr.take (A:=au _ [.int _ 0,.int _ 0,.bool false]) tk ?_;rw[wrap64 (n:=q*64) ae ae,show Pg.many (.head k)=(k:Int)from rfl,wrap64 (n:=(k:Int)*64) ae ae];apply fin _ _ _;have e1:((q.toNat*64:Nat):Int)=q*64:=by omega
       have e2:((k*64:Nat):Int)=k*64:=by omega
       rw[hfo];simp only[Option.map_some,Rf.Lq,e1,e2]
   ·intro J hJ;refine ag (fun h5=>?_) (fun h5=>hJ () _ ⟨fun c l e=>?_,rfl⟩)
    ·refine ag (fun h6=>?_) (fun h6=>hJ () _ ⟨fun c l e=>?_,rfl⟩)
     ·obtain⟨c,l,rfl⟩:∃c l,x= .small c l:=by
       cases x with
       |small c l=>exact⟨c,l,rfl⟩
       |_=>simp[Pg.kind]at h5 h6
      obtain⟨hc5,hll⟩:=hw.small _ _ _ hx;have hz:=Sp.eH hc5;apply ai (oW) ar;rintro s M ⟨hs,rfl⟩;rw[show IntKind.wrap .i64 (Pg.kind (.small c l)-1)=(c:Int) by simp only[Pg.kind];rw[bG];omega];apply bt tk ae (by show _<5;omega);rw[Int.toNat_natCast,Sp.pG hc5];refine tD _ ?_;obtain⟨k,hk⟩:∃k,n%64/Sp.sz c=k:=⟨_,rfl⟩;have hkle:k≤n%64:=by rw[←hk];exact Nat.div_le_self _ _
      have hd:IntKind.wrap .i64 (Int.tdiv ((n%64:Nat):Int) (Sp.sz c:Nat))=(k:Int):=by rw[Int.tdiv_eq_ediv_of_nonneg ae,show((n%64:Nat):Int)/(Sp.sz c:Nat)=((n%64/Sp.sz c:Nat):Int)from rfl,hk,bG]
      rw[hd];have hlt:k<l.length:=by rw[←hk,hll];rcases hz with ⟨_,e⟩|⟨_,e⟩|⟨_,e⟩|⟨_,e⟩|⟨_,e⟩<;>rw[e]<;>omega
      refine bm bd (bm ae ?_);refine af (ay.op tk fun sa sk sm sq ql hql=>?_);refine iL<|kr tk ae ae<|wk (bl:=S.pg.map _) (ql:=ql) (by simp[hql]) fC tk ?_;rw[kQ hx];refine jO (xs:=l) tk ae ae<|uG (bl:=S.pg.map _) (ql:=ql) (by simp[hql]) fC (by rw[kQ hx];exact ar)<|tC (ay.cl hql) ?_;refine Tr.take (A:=au _ [.int _ 0,.int _ 0,.bool false]) tk ?_;have hfs:=Sp.gn hn hx;rw[hk]at hfs;refine ag (fun h7=>?_) (fun h7=>?_)
      ·have h7:l.getD k false=false:=by simpa using h7
       rw[h7]at hfs;exact fin 0 0 _ (by rw[hfs];rfl)
      ·have h7:l.getD k false=true:=by simpa using h7
       rw[h7]at hfs;have hmul:k*Sp.sz c≤n%64:=by rw[←hk];exact Nat.div_mul_le_self _ _
       have e1:k*(Sp.sz c:Nat)=((k*Sp.sz c:Nat):Int):=by rw[Int.natCast_mul]
       rw[wrap64 (n:=((n/64:Nat):Int)*64) ae ae,e1,wrap64 (n:=((k*Sp.sz c:Nat):Int)) ae ae,bG];apply fin _ _ _;rw[hfs];congr 1
     ·have h6:=oF h6;subst e;have:=(hw.small _ _ _ hx).1;simp[Pg.kind]at h6;omega
    ·subst e;simp[Pg.kind]at h5;omega
theorem DB{pg:List Pg}{i k:Nat}(hk:i+k≤pg.length){x:Nat}(hx:x<pg.length):((Sp.kF pg i k).map Pg.kind).getD x 0=if x=i then 6 else if i<x∧x<i+k then 7 else(pg.map Pg.kind).getD x 0:=by
 have hp:=dL (pg:=pg) (i:=i) (k:=k) (j:=x);rw[if_pos hx]at hp;rw[oM hp];split;·rfl
 ·split;·rfl
  grind
theorem C3{pg:List Pg}{i k:Nat}(hk:i+k≤pg.length)(hf:∀j:Nat,i≤j→j<i+k→pg[j]? =some .free){x:Nat}(hx:x<pg.length):((Sp.kF pg i k).map Pg.many).getD x 0=if x=i then(k:Int)else(pg.map Pg.many).getD x 0:=by
 have hp:=dL (pg:=pg) (i:=i) (k:=k) (j:=x);rw[if_pos hx]at hp;rw[uq hp];split;·rfl
 ·split;·rename_i h1 h2;rw[uq (hf x ae h2.2)];rfl
  grind
theorem Dv{pg:List Pg}{i k:Nat}(hk:i+k≤pg.length)(hk0:1≤k)(hf:∀j:Nat,i≤j→j<i+k→pg[j]? =some .free):(Sp.kF pg i k).map Pg.bits=pg.map Pg.bits:=by
 refine fv [] (by simp[jR]) fun x hx=>?_;rw[List.length_map,jR]at hx;have hp:=dL (pg:=pg) (i:=i) (k:=k) (j:=x);rw[if_pos hx]at hp;rw[kQ hp];split;·rw[kQ (hf x ae ae)];rfl
 ·split;·rename_i h1 h2;rw[kQ (hf x ae h2.2)];rfl
  grind
theorem iF{α:Type}{l:List α}{i j:Nat}{x d:α}(hj:j<l.length):(l.set i x).getD j d=if i=j then x else l.getD j d:=by grind
theorem kJ{α β:Type}{f:α→β}{l:List α}{i:Nat}{x:α}:(l.set i x).map f=(l.map f).set i (f x):=by rw[List.map_set]
theorem AF{pg:List Pg}{c:Nat}(h:∀x:Nat,x<pg.length→Sp.kD pg c x=false):Sp.jY pg c=none:=by show(List.range pg.length).find? (Sp.kD pg c)=none;grind
theorem Aw{pg:List Pg}{c j:Nat}(hj:j<pg.length)(h1:Sp.kD pg c j=true)(h:∀x:Nat,x<j→Sp.kD pg c x=false):Sp.jY pg c=some j:=by show(List.range pg.length).find? (Sp.kD pg c)=some j;simp_all
theorem yB(p:Nat)(S:aJ)(hw:Wf S)(w:Int):Gl.Spec ρ Zp 238 [pA p,i64 w] [ay p S] G2
  fun r M=>r=((Sp.alloc S w).1,(Sp.alloc S w).2.1,())∧M=[ay p (Sp.alloc S w).2.2]:=by
 have hmost:=hw.fF;have hlen:=hw.len;refine So (F.ah.aV.Alloc.calls _ w) fun R=>?_;unfold F.ah.aV.Alloc;try simp only[c8,c9]
 refine aq fun b1=>?_;rw[gk];have fin:∀(x y:Int) (S':aJ),Sp.alloc S w=(x,y,S')→Tr ρ ρ (au b1 [.int .i64 0,.int .i64 0]::ay p S'::R)
   (st ⟨b1,0,none⟩ [.int .i64 x,.int .i64 y]<|ld (.g [kI,kI]) ⟨b1,0,none⟩ fun(x:LTs [kI,kI])=>ret (.agg #[.int .i64 x.1,.int .i64 x.2.1]))
   (SP G2 (fun r M=>r=((Sp.alloc S w).1,(Sp.alloc S w).2.1,())∧M=[ay p (Sp.alloc S w).2.2]) R):=fun x y S' hf=>by refine iT ?_;refine aN (b:=b1) (x:=(x,y,())) [] rfl tk rfl ?_;rw[hf];exact rT
 apply cE (C8 w);try simp only[c8,c9]
 refine ag (fun h=>?_) (fun h=>?_);·exact fin 0 1 S (by unfold Sp.alloc;rw[if_pos (eq_of_beq h)])
 ·have hb:Sp.au w≠0:=by simpa using h
  have hal:Sp.alloc S w=if(Sp.place S.pg w).2.1=0 then((Sp.place S.pg w).1,0,⟨Sp.iu S.ws (Sp.place S.pg w).1.toNat (Sp.au w).toNat,(Sp.place S.pg w).2.2⟩)else(0,(Sp.place S.pg w).2.1,S):=by unfold Sp.alloc;rw[if_neg hb]
  have hfull:Sp.place S.pg w=(0,3,S.pg)→Sp.alloc S w=(0,3,S):=fun e=>by rw[hal,e,if_neg bu]
  apply cE (wL w);try simp only[c8,c9]
  refine ag (fun h2=>?_) (fun h2=>?_)
  ·replace h2:Sp.cls w<0:=oT h2;obtain⟨k1,k2,k3⟩:=Sp.sR hb h2;obtain⟨k,hk⟩:∃k:Nat,Sp.pj w=k:=⟨(Sp.pj w).toNat,ae⟩;have hpl:Sp.place S.pg w=(match Sp.run (S.pg.map Pg.taken) k with |some p=>(((p*64:Nat):Int),0,Sp.kF S.pg p k)|none=>(0,3,S.pg)):=by unfold Sp.place;rw[if_pos h2,hk,Int.toNat_natCast];rfl
   have hdv:IntKind.wrap .i64 (Int.tdiv (Sp.au w) 64)=(k:Int):=by rw[k3,hk,Int.tdiv_eq_ediv_of_nonneg ae,bG];omega
   rw[hdv];refine bm bd<|ai (yw p S hw) ar ?_;rintro r M rfl;try simp only[c8,c9]
   apply cE (Fw r (S.pg.map _) k ae ae fC);try simp only[c8,c9]
   refine tD _ ?_;cases hr:Sp.run (S.pg.map Pg.taken) k with
   |none=>rw[hr]at hpl;exact bT<|Tr.take (A:=au _ [.int _ 0,.int _ 0]) tk<|fin 0 3 S (hfull hpl)
   |some i=>
    rw[hr]at hpl;dsimp only at hpl;obtain⟨hi,hfree⟩:=lq hr;refine bF ?_;rw[show Sp.oI (some i)=(i:Int)from rfl];rw[wrap64 (n:=(i:Int)+k) ae ae,wrap64 (n:=(i:Int)*64) ae ae];refine ay.op tk fun sa sk sm sq ql hql=>Tr.take (A:=aw sk 1 _) tk ?_;refine aM (fun m u M=>(fun j:Int=>∃ks:List Int,M=aw sk 1 (ks.map i64)::au p [bY sa,bY sk,bY sm,bY sq]::aw sa 1 (S.ws.map i64)::aw sm 1 ((S.pg.map Pg.many).map i64)::aw sq 1 (ql.map bY)::star (((S.pg.map Pg.bits).zip ql).map Ae)::au b1 [.int .i64 0,.int .i64 0]::R∧
     i≤j∧j≤i+k∧m=i+k-j.toNat∧ks.length=S.pg.length∧∀x:Nat,x<S.pg.length→ks.getD x 0=if i≤x∧x<j.toNat then 7 else(S.pg.map Pg.kind).getD x 0) u.1) k ?_ ?_;·exact⟨S.pg.map Pg.kind,rfl,bu,bq,bq,bu,fun x hx=>by dsimp only;rw[if_neg ae]⟩
    ·rintro m ⟨(j:Int),⟨⟩⟩ M ⟨ks,rfl,j0,j1,rfl,hkl,hks⟩ X hX;dsimp only at*;refine ag (fun h3=>?_) (fun h3=>?_)
     ·replace h3:j<(i:Int)+k:=oT h3;refine af<|iL<|dr tk ae ae ?_;rw[bG (n:=j+1)];refine hX _ _ _ ae ⟨_,rfl,bq,bq,rfl,by simp[hkl],fun x hx=>?_⟩;dsimp only;rw[iF ae,hks x hx];by_cases hxj:j.toNat=x;·rw[if_pos hxj,if_pos ae]
      ·rw[if_neg hxj];by_cases hc:i≤x∧x<j.toNat;·rw[if_pos hc,if_pos ae]
       ·rw[if_neg hc,if_neg ae]
     ·replace h3:¬j<(i:Int)+k:=oF h3;have hjk:j.toNat=i+k:=by omega
      rw[hjk]at hks;refine af<|iL<|dr tk ae ae<|af<|iL ?_;apply dr tk ae fC;rw[Int.toNat_natCast];have e1:ks.set i 6=(Sp.kF S.pg i k).map Pg.kind:=by
       refine fv 0 (by simp[hkl,jR]) fun x hx=>?_;rw[List.length_set]at hx;rw[iF ae,DB ae ae,hks x ae];by_cases hxi:x=i;·rw[if_pos hxi.symm,if_pos hxi]
       ·rw[if_neg (fun e=>hxi e.symm),if_neg hxi];by_cases hc:i<x∧x<i+k;·rw[if_pos ⟨ae,hc.2⟩,if_pos hc]
        ·rw[if_neg ae,if_neg hc]
      have e2:(S.pg.map Pg.many).set i (k:Int)=(Sp.kF S.pg i k).map Pg.many:=by
       refine fv 0 (by simp[jR]) fun x hx=>?_;rw[List.length_set,List.length_map]at hx;rw[iF (by simpa using hx),C3 ae hfree hx];by_cases hxi:x=i;·rw[if_pos hxi.symm,if_pos hxi]
       ·rw[if_neg (fun e=>hxi e.symm),if_neg hxi]
      rw[e1,e2];refine Tr.imp (A:=star _) (A':=star ((((Sp.kF _ i k).map _).zip ql).map Ae)) tk (fun h H=>by rw[Dv ae ae hfree];exact H)<|tC (ay.cl (S:=⟨S.ws,Sp.kF _ i k⟩) (by dsimp only;rw[jR];exact hql)) ?_;have e3:(i:Int)*64=((i*64:Nat):Int):=by omega
      have e4:Sp.au w=((k*64:Nat):Int):=by omega
      rw[e3];rw[e4]at hal⊢;apply ai (Cy p ⟨S.ws,Sp.kF _ i k⟩ _ _ bq bq) ar;rintro x' M rfl;try simp only[c8,c9]
      refine Tr.take (A:=au _ [.int _ 0,.int _ 0]) tk<|fin _ _ _ ?_;rw[hal,hpl,if_pos rfl,Int.toNat_natCast,Int.toNat_natCast]
  ·replace h2:¬Sp.cls w<0:=oF h2;have hcc:=Sp.kX w;obtain⟨c,hc⟩:∃c:Nat,Sp.cls w=c:=⟨(Sp.cls w).toNat,ae⟩;have hc5:c<5:=by omega
   have hz:=Sp.eH hc5;have hblk:Sp.au w=(Sp.sz c:Int):=by unfold Sp.au;rw[if_pos ae,hc,Int.toNat_natCast,Sp.pG hc5]
   have h32:0<64/Sp.sz c:=by rcases hz with ⟨_,e⟩|⟨_,e⟩|⟨_,e⟩|⟨_,e⟩|⟨_,e⟩<;>rw[e]<;>decide
   have h64:64/Sp.sz c≤32:=by rcases hz with ⟨_,e⟩|⟨_,e⟩|⟨_,e⟩|⟨_,e⟩|⟨_,e⟩<;>rw[e]<;>decide
   have hpl:Sp.place S.pg w=(match Sp.jY S.pg c with
    |some p=>Sp.cO S.pg p c (Sp.blocks S.pg p)
    |none=>(match Sp.run (S.pg.map Pg.taken) 1 with
     |some p=>Sp.cO S.pg p c (List.replicate (64/Sp.sz c) false)
     |none=>(0,3,S.pg))):=by unfold Sp.place;rw[if_neg h2,hc,Int.toNat_natCast];rfl
   rw[hc,hblk,bG (n:=(c:Int)+1)];rw[hblk,Int.toNat_natCast]at hal;have hfit:∀{i k:Nat},i<S.pg.length→k<64/Sp.sz c→k*Sp.sz c+Sp.sz c≤64∧i*64+k*Sp.sz c+Sp.sz c≤S.ws.length:=fun{i k} hi hk=>by have:=(m9 hc5 hk rfl).1;omega
   have tail:∀(i:Nat) (l:List Bool) (S1:aJ) (k:Nat),i<S.pg.length→Sp.place S.pg w=Sp.cO S.pg i c l→l.length=64/Sp.sz c→Sp.next l 0 false=k→k<l.length→S1.ws=S.ws→S1.pg=S.pg.set i (.small c (l.set k true))→
     Tr ρ ρ (ay p S1::au b1 [.int .i64 0,.int .i64 0]::R) (call Zp 277 [pA p,.int .i64 (IntKind.wrap .i64 (IntKind.wrap .i64 ((i:Int)*64)+IntKind.wrap .i64 ((k:Int)*(Sp.sz c:Nat)))),.int .i64 (Sp.sz c:Nat)] (.many []) fun(_:KTs [])=>
      st ⟨b1,0,none⟩ [.int .i64 (IntKind.wrap .i64 (IntKind.wrap .i64 ((i:Int)*64)+IntKind.wrap .i64 ((k:Int)*(Sp.sz c:Nat)))),.int .i64 0]<|ld (.g [kI,kI]) ⟨b1,0,none⟩ fun(x:LTs [kI,kI])=>ret (.agg #[.int .i64 x.1,.int .i64 x.2.1]))
     (SP G2 (fun r M=>r=((Sp.alloc S w).1,(Sp.alloc S w).2.1,())∧M=[ay p (Sp.alloc S w).2.2]) R):=fun i l S1 k hi hp hl hk hkl hS1 hS2=>by
    obtain⟨f1,f2⟩:=hfit hi (show k<64/Sp.sz c by omega);have em:(k:Int)*(Sp.sz c:Nat)=((k*Sp.sz c:Nat):Int):=by rw[Int.natCast_mul]
    have ea:IntKind.wrap .i64 (IntKind.wrap .i64 ((i:Int)*64)+IntKind.wrap .i64 ((k:Int)*(Sp.sz c:Nat)))=((i*64+k*Sp.sz c:Nat):Int):=by rw[em,wrap64 (n:=(i:Int)*64) ae ae,wrap64 (n:=((k*Sp.sz c:Nat):Int)) ae ae,bG];omega
    rw[ea];apply ai (Cy p _ _ _ (by rw[hS1];omega) (by rw[hS1];omega)) ar;rintro x' M rfl;try simp only[c8,c9]
    refine Tr.take (A:=au _ [.int _ 0,.int _ 0]) tk<|fin _ _ _ ?_;rw[hal,hp,Sp.cO,if_pos rfl,Int.toNat_natCast,hk,Int.toNat_natCast,hS1,hS2]
   refine iV (fun(u:LTs [kI]) M=>M=au b1 [.int .i64 0,.int .i64 0]::ay p S::R∧((u.1=((S.pg.length:Nat):Int)∧Sp.jY S.pg c=none)∨∃j:Nat,u.1=(j:Int)∧Sp.jY S.pg c=some j)) ?_ ?_
   ·rintro⟨(u:Int),⟨⟩⟩ M ⟨rfl,hu⟩;dsimp only at hu⊢;refine af (ay.op tk fun sa sk sm sq ql hql=>?_);refine iL<|Tr.fu (s:=sk) (xs:=S.pg.map Pg.kind) tk fun hsk=>?_;rw[List.length_map]at hsk;rcases hu with ⟨rfl,ho⟩|⟨j,rfl,ho⟩
    ·rw[ho]at hpl;dsimp only at hpl;refine bg (by rw[hsk];simp)<|tC (ay.cl (p:=p) (S:=S) (a:=sa) (k:=sk) (m:=sm) (q:=sq) hql)<|ai (yw p S hw) ar ?_;rintro r M rfl;try simp only[c8,c9]
     apply cE (Fw r (S.pg.map _) 1 ae ae fC);try simp only[c8,c9]
     refine tD _ ?_;cases hr:Sp.run (S.pg.map Pg.taken) 1 with
     |none=>rw[hr]at hpl;exact bT<|Tr.take (A:=au _ [.int _ 0,.int _ 0]) tk<|fin 0 3 S (hfull hpl)
     |some i=>
      rw[hr]at hpl;dsimp only at hpl;obtain⟨hi,hfree⟩:=lq hr;have hfi:=hfree i ae ae;obtain⟨k,g1,g2,g3⟩:=tR (n:=64/Sp.sz c) h32;rw[List.length_replicate]at g2;refine bF ?_;rw[show Sp.oI (some i)=(i:Int)from rfl];refine af (ay.op tk fun sa sk sm sq ql hql=>?_);refine iL ?_;refine dr tk ae fC<|aA (aK [au p [bY sa,bY sk,bY sm,bY sq]] ar (af ?_));refine jL<|bm ae ?_;have hdv:IntKind.wrap .i64 (Int.tdiv 64 (Sp.sz c:Nat))=((64/Sp.sz c:Nat):Int):=by rcases hz with ⟨_,e⟩|⟨_,e⟩|⟨_,e⟩|⟨_,e⟩|⟨_,e⟩<;>rw[e]<;>decide
      rw[hdv];refine mg (e:=4) (m:=1) (bytes:=1) (z:= .bool false) (by kernel_rfl) (by kernel_rfl) rfl ae ae ae fun b=>?_;have e:(List.replicate ((64/Sp.sz c:Nat):Int).toNat (Value.cells (.bool false)).toList).flatten=(List.replicate (64/Sp.sz c) false).map bv:=by rw[show(Value.cells (.bool false)).toList=[bv false]from rfl,z6,Int.toNat_natCast];simp
      rw[e,Int.toNat_natCast];refine cK<|CJ tk ae ae<|af<|iL ?_;have hqi:(ql.set i ⟨oA b,64/Sp.sz c,64/Sp.sz c⟩).getD i kW=(⟨oA b,64/Sp.sz c,64/Sp.sz c⟩:av):=by rw[iF ae,if_pos rfl]
      apply kr tk ae fC;rw[Int.toNat_natCast,hqi];apply cE (xr ⟨oA b,64/Sp.sz c,64/Sp.sz c⟩ (List.replicate (64/Sp.sz c) _) _ fC);try simp only[c8,c9]
      rw[g1];refine af<|iL<|kr tk ae fC ?_;rw[Int.toNat_natCast,hqi];apply qB tk ae (by rw[List.length_replicate];omega);rw[Int.toNat_natCast];refine wk (i:=i) (bl:=S.pg.map _) (ql:=ql) (by simp[hql]) fC tk<|tD _ ?_;refine Ce (bl:=S.pg.map _) (ql:=ql) (i:=i) (by simp[hql]) fC ar ?_;have hset:∀β (f:Pg→β) v,f _=v→(S.pg.map f).set i v=(S.pg.set i (.small c ((List.replicate (64/Sp.sz c) false).set k true))).map f:=fun β f v hv=>by rw[kJ,hv]
      have hm:(S.pg.set i (.small c ((List.replicate (64/Sp.sz c) false).set k true))).map Pg.many=S.pg.map Pg.many:=by
       rw[kJ];refine fv 0 bu fun x hx=>?_;rw[List.length_set,List.length_map]at hx;rw[iF (by simpa using hx)];by_cases hxi:i=x;·subst hxi;rw[if_pos rfl,uq hfi];rfl
       ·rw[if_neg hxi]
      rw[hset Int Pg.kind ((c:Int)+1) rfl,hset (List Bool) Pg.bits ((List.replicate (64/Sp.sz c) false).set k true) rfl,←hm];exact tC (ay.cl (p:=p) (S:=⟨S.ws,S.pg.set i (.small c ((List.replicate (64/Sp.sz c) false).set k true))⟩) (a:=sa) (k:=sk) (m:=sm) (q:=sq) (ql:=ql.set i ⟨oA b,64/Sp.sz c,64/Sp.sz c⟩) (by simp[hql]))<|tail i _ ⟨S.ws,S.pg.set i (.small c ((List.replicate (64/Sp.sz c) false).set k true))⟩ k (by omega) hpl (by simp) g1 (by simpa using g2) rfl rfl
    ·rw[ho]at hpl;dsimp only at hpl;obtain⟨l,hp,hcnt⟩:=Sp.vb ho;obtain⟨k,g1,g2,g3⟩:=jf hcnt;have hbl:Sp.blocks S.pg j=l:=by unfold Sp.blocks;rw[hp]
     rw[hbl]at hpl;have hj:=cf hp;have hll:=(hw.small _ _ _ hp).2;refine ak (beq_eq_false_iff_ne.2 (show(j:Int)≠_ by omega))<|af<|iL<|kr tk ae ae ?_;rw[Int.toNat_natCast];refine wk (bl:=S.pg.map _) (ql:=ql) (by simp[hql]) fC tk ?_;rw[kQ hp,show Pg.bits (.small c l)=l from rfl];apply cE (xr _ l _ ae);try simp only[c8,c9]
     rw[g1];refine af<|iL<|kr tk ae ae ?_;rw[Int.toNat_natCast];apply qB tk ae ae;rw[Int.toNat_natCast];refine Ce (bl:=S.pg.map _) (ql:=ql) (by simp[hql]) fC ar ?_;have hqs:ql.set j (ql.getD j kW)=ql:=by
      refine fv kW bu fun x hx=>?_;rw[List.length_set]at hx;rw[iF hx];by_cases hxi:j=x;·rw[if_pos hxi,hxi]
      ·rw[if_neg hxi]
     have hm:∀f:Pg→Int,f (.small c (l.set k true))=f (.small c l)→(S.pg.set j (.small c (l.set k true))).map f=S.pg.map f:=fun f hf=>by
      rw[kJ];refine fv 0 bu fun x hx=>?_;rw[List.length_set,List.length_map]at hx;rw[iF (by simpa using hx)];by_cases hxi:j=x;·subst hxi;rw[if_pos rfl,hf,List.getD_eq_getElem?_getD,List.getElem?_map,hp];rfl
      ·rw[if_neg hxi]
     rw[hqs,show(S.pg.map Pg.bits).set j (l.set k true)=(S.pg.set j (.small c (l.set k true))).map Pg.bits by rw[kJ];rfl,←hm Pg.kind rfl,←hm Pg.many rfl];exact tC (ay.cl (p:=p) (S:=⟨S.ws,S.pg.set j (.small c (l.set k true))⟩) (a:=sa) (k:=sk) (m:=sm) (q:=sq) (ql:=ql) (by simp[hql]))<|tail j l ⟨S.ws,S.pg.set j (.small c (l.set k true))⟩ k hj hpl hll g1 g2 rfl rfl
   ·intro J hJ;refine aM (fun m u M=>(fun j:Int=>M=au b1 [.int .i64 0,.int .i64 0]::ay p S::R∧0≤j∧j≤S.pg.length∧m=S.pg.length-j.toNat∧∀x:Nat,x<j.toNat→Sp.kD S.pg c x=false) u.1) S.pg.length ?_ ?_;·exact⟨rfl,bu,bq,bu,fun x hx=>by simp at hx⟩
    ·rintro m ⟨(j:Int),⟨⟩⟩ M ⟨rfl,j0,j1,rfl,hop⟩ X hX;dsimp only at*;refine af (ay.op tk fun sa sk sm sq ql hql=>?_);refine iL<|Tr.fu (s:=sk) (xs:=S.pg.map Pg.kind) tk fun hsk=>?_;rw[List.length_map]at hsk;refine ag (fun h3=>?_) (fun h3=>?_)
     ·replace h3:j<(sk.n:Int):=oT h3;have hx:S.pg[j.toNat]? =some S.pg[j.toNat]:=List.getElem?_eq_getElem ae;generalize S.pg[j.toNat]=x at hx;have hoq:Sp.kD S.pg c j.toNat=(match x with | .small c' l=>c'==c&& !decide (l.count true=l.length)|_=>false):=by cases x<;>simp[Sp.kD,hx]
      have w1:IntKind.wrap .i64 _=j+1:=bG;have hgo:Sp.kD S.pg c j.toNat=false→Tr ρ ρ (au b1 [.int .i64 0,.int .i64 0]::ay p S::R) (X (j+1,())) (SP G2 (fun r M=>r=((Sp.alloc S w).1,(Sp.alloc S w).2.1,())∧M=[ay p (Sp.alloc S w).2.2]) R):=fun hq=>
       hX (S.pg.length-(j+1).toNat) _ _ (by omega) ⟨rfl,by dsimp only;omega,by dsimp only;omega,rfl,fun x hx=>by
        dsimp only at hx;by_cases hc:x=j.toNat;·rw[hc];exact hq
        ·exact hop x ae⟩;refine af<|iL ?_;apply bt tk j0 fC;rw[oM hx,w1];refine ag (fun h4=>?_) (fun h4=>?_)
      ·have h4:x.kind≠(c:Int)+1:=by simpa using h4
       refine tC (ay.cl (p:=p) (S:=S) (a:=sa) (k:=sk) (m:=sm) (q:=sq) hql)<|Tr.take (A:=au b1 [.int .i64 0,.int .i64 0]) tk (hgo ?_);rw[hoq];cases x with
       |small c' l=>
        have:c'≠c:=by rintro rfl;exact h4 rfl
        simp[this]
       |_=>rfl
      ·have h4:x.kind=(c:Int)+1:=by simpa using h4
       obtain⟨l,rfl⟩:∃l,x= .small c l:=by
        cases x with
        |small c' l=>exact⟨l,by(have:c'=c:=by{simp[Pg.kind]at h4;omega});rw[this]⟩
        |_=>simp[Pg.kind]at h4<;>omega
       have hll:=(hw.small _ _ _ hx).2;dsimp only at hoq;refine af<|iL<|kr tk j0 ae<|wk (i:=j.toNat) (bl:=S.pg.map _) (ql:=ql) (by simp[hql]) fC tk ?_;rw[kQ hx,show Pg.bits (.small c l)=l from rfl];apply cE (xr _ l _ ae);try simp only[c8,c9]
       refine uG (bl:=S.pg.map _) (ql:=ql) (i:=j.toNat) (by simp[hql]) fC (by rw[kQ hx];exact ar)<|tC (ay.cl (p:=p) (S:=S) (a:=sa) (k:=sk) (m:=sm) (q:=sq) hql) ?_;refine Tr.take (A:=au _ [.int _ 0,.int _ 0]) tk ?_;by_cases hcnt:l.count true=l.length
       ·have hn1:Sp.next l 0 false= -1:=by
         rcases Sp.jy l false 0 with ⟨g1,_⟩|⟨k,g1,g2,g3,g4,g5⟩;·exact g1
         ·exfalso;rw[List.count_eq_length]at hcnt;have hm:l[k]∈l:=List.getElem_mem g3;have:=hcnt _ hm;rw[List.getD_eq_getElem?_getD,List.getElem?_eq_getElem g3,Option.getD_some]at g4;rw[g4]at this;cases this
        rw[hn1];refine bg rfl (hgo ?_);rw[hoq];simp[hcnt]
       ·obtain⟨k,g1,g2,g3⟩:=jf hcnt;rw[g1];refine bF<|hJ _ _ ⟨rfl,.inr ⟨j.toNat,(show j=_ by omega),Aw ae (by rw[hoq];simp[hcnt]) hop⟩⟩
     ·replace h3:¬j<(sk.n:Int):=oF h3;refine tC (ay.cl (p:=p) (S:=S) (a:=sa) (k:=sk) (m:=sm) (q:=sq) hql) ?_;exact Tr.take (A:=au _ [.int _ 0,.int _ 0]) tk<|hJ _ _ ⟨rfl,.inl ⟨(show j=_ by omega),AF fun x hx=>hop x ae⟩⟩
theorem Bl{pg:List Pg}{i k x:Nat}(hx:x<pg.length):((Sp.gX pg i k).map Pg.kind).getD x 0=if i≤x∧x<i+k then 0 else(pg.map Pg.kind).getD x 0:=by
 have hp:=dO (pg:=pg) (i:=i) (k:=k) (j:=x);rw[if_pos hx]at hp;rw[oM hp];split;·rfl
 grind
theorem AX{pg:List Pg}{i k x:Nat}(hx:x<pg.length):((Sp.gX pg i k).map Pg.many).getD x 0=if i≤x∧x<i+k then 0 else(pg.map Pg.many).getD x 0:=by
 have hp:=dO (pg:=pg) (i:=i) (k:=k) (j:=x);rw[if_pos hx]at hp;rw[uq hp];split;·rfl
 grind
theorem AP{pg:List Pg}{i k:Nat}(h0:∀x:Nat,i≤x→x<i+k→(pg.map Pg.bits).getD x []=[]):(Sp.gX pg i k).map Pg.bits=pg.map Pg.bits:=by
 refine fv [] (by simp[gZ]) fun x hx=>?_;rw[List.length_map,gZ]at hx;have hp:=dO (pg:=pg) (i:=i) (k:=k) (j:=x);rw[if_pos hx]at hp;rw[kQ hp];split;·rename_i h;rw[h0 x h.1 h.2];rfl
 grind
theorem IY(p:Nat)(S:aJ)(hw:Wf S)(a:Int):Gl.Spec ρ Zp 193 [pA p,i64 a] [ay p S] R1
  fun r M=>r=(Sp.dH S a).1∧M=[ay p (Sp.dH S a).2]:=by
 have hmost:=hw.fF;have hlen:=hw.len;refine So (F.ah.aV.yi.calls _ a) fun R=>cE (tc p S hw a)<|aq fun b2=>?_;rw[LX];cases hf:Sp.find S a with
 |none=>
  have e:Sp.dH S a=(2,S):=by unfold Sp.dH;rw[hf]
  rw[e];refine iT<|aT bL tk rfl ?_;exact bT<|rT
 |some x=>
  obtain⟨s,w⟩:=x;refine iT<|aT bL tk rfl<|ak rfl ?_;refine lI b2 0 (s:Int)<|ag (fun h=>?_) (fun h=>?_)
  ·have hs:¬(s:Int)=a:=by simpa using h
   have e:Sp.dH S a=(2,S):=by unfold Sp.dH;rw[hf];dsimp only;rw[if_neg hs]
   rw[e];exact rE (2:Int)
  ·have hs:(s:Int)=a:=by simpa using h
   subst hs;obtain⟨hn,hcase⟩:=Sp.l5 hw hf rfl;have hP:s/64<S.pg.length:=by omega
   have hw1:IntKind.wrap .i64 (Int.tdiv s 64)=((s/64:Nat):Int):=by rw[Int.tdiv_eq_ediv_of_nonneg ae,bG];omega
   have hw2:Int.tmod s 64=((s%64:Nat):Int):=by rw[Int.tmod_eq_emod_of_nonneg ae];omega
   have e0:Sp.dH S s=match S.pg[s/64]? with
     |some (.small c l)=>(0,⟨S.ws,S.pg.set (s/64) (if(l.set (s%64/Sp.sz c) false).count true=0 then .free else .small c (l.set (s%64/Sp.sz c) false))⟩)
     |some (.head k)=>(0,⟨S.ws,Sp.gX S.pg (s/64) k⟩)
     |_=>(0,S):=by unfold Sp.dH;rw[hf];dsimp only;rw[if_pos rfl];rfl
   rw[hw1,hw2];refine bm bd (af (ay.op tk fun sa sk sm sq ql hql=>?_));refine iL ?_;apply bt tk ae fC;rw[Int.toNat_natCast];rcases hcase with ⟨c,l,k,g1,g2,g3,g4,g5,g6,g7⟩|⟨k,g1,g2,g3⟩
   ·rw[g1]at e0;dsimp only at e0;rw[←g4]at e0;have hkl:k<l.length:=by
     rcases Nat.lt_or_ge k l.length with c|c;·exact c
     ·rw[List.getD_eq_getElem?_getD,List.getElem?_eq_none c]at g5;cases g5
    have hz:=Sp.eH g2;rw[oM g1];refine ak (by simp[Pg.kind];omega) (aA (af ?_));refine iL<|kr tk ae ae ?_;rw[Int.toNat_natCast];refine bm (by decide)<|lI b2 1 (w:Int)<|bm (by omega) ?_;have hd:IntKind.wrap .i64 (Int.tdiv ((s%64:Nat):Int) (w:Nat))=(k:Int):=by
     have hkle:k≤s%64:=by rw[g4];exact Nat.div_le_self _ _
     rw[Int.tdiv_eq_ediv_of_nonneg (by omega),g7,show((s%64:Nat):Int)/(Sp.sz c:Nat)=((s%64/Sp.sz c:Nat):Int)from rfl,←g4,wrap64 (by omega) (by omega)]
    rw[hd];refine wk (i:=s/64) (bl:=S.pg.map Pg.bits) (ql:=ql) (by simp[hql]) (by simp;omega) tk ?_;rw[kQ g1,show Pg.bits (.small c l)=l from rfl];refine qB (s:=ql.getD (s/64) kW) (xs:=l) tk (by omega) (by omega)<|af<|iL<|kr tk ae ae ?_;have h32:l.length≤32:=by rw[g3];rcases hz with ⟨_,e⟩|⟨_,e⟩|⟨_,e⟩|⟨_,e⟩|⟨_,e⟩<;>rw[e]<;>decide
    apply cE (Ec _ (l.set k _) fC);have hbs:∀x,x.bits=l.set k false→(S.pg.map Pg.bits).set _ _=(S.pg.set (s/64) x).map Pg.bits:=fun x hx=>by rw[kJ,hx]
    have hsame:∀(f:Pg→Int) (x:Pg),f x=f (.small c l)→(S.pg.set (s/64) x).map f=S.pg.map f:=fun f x hf=>by
     rw[kJ];refine fv 0 bu fun y hy=>?_;rw[iF (by simpa using hy)];by_cases hyi:s/64=y;·subst hyi;rw[if_pos rfl,hf,List.getD_eq_getElem?_getD,List.getElem?_map,g1];rfl
     ·rw[if_neg hyi]
    have hqs:ql.set (s/64) (ql.getD (s/64) kW)=ql:=by
     refine fv kW bu fun x hx=>?_;rw[List.length_set]at hx;rw[iF hx];by_cases hxi:s/64=x;·rw[if_pos hxi,hxi]
     ·rw[if_neg hxi]
    refine ag (fun h0=>?_) (fun h0=>?_)
    ·have h0:(l.set k false).count true=0:=by have:=eq_of_beq h0;omega
     rw[if_pos h0]at e0;rw[e0];refine af<|iL ?_;refine dr tk ae fC<|af<|iL<|CJ (v:=kW) tk ae ae ?_;rw[Int.toNat_natCast];refine tD (aw (ql.getD _ _) 1 _)<|Tr.cg 1<|Tr.imp (A':=aw kW 1 (([]:List _).map bv)) tk (fun _ h=>h) ?_;refine Ce (bl:=S.pg.map _) (ql:=ql) (by simp[hql]) fC ar ?_;rw[show(S.pg.map Pg.bits).set (s/64) []=(S.pg.set (s/64) .free).map Pg.bits by rw[kJ];rfl,show(S.pg.map Pg.kind).set (s/64) 0=(S.pg.set (s/64) .free).map Pg.kind by rw[kJ];rfl,←hsame Pg.many .free rfl];refine tC (ay.cl (S:=⟨S.ws,S.pg.set (s/64) .free⟩) (ql:=ql.set _ kW) (by simp[hql])) ?_;exact rT
    ·have h0:¬(l.set k false).count true=0:=by intro h;rw[h]at h0;simp at h0
     rw[if_neg h0]at e0;rw[e0];refine Ce (bl:=S.pg.map Pg.bits) (ql:=ql) (i:=s/64) (b:=l.set k false) (q:=ql.getD (s/64) kW) (by simp[hql]) (by simp;omega) ar ?_;rw[hqs,hbs (.small c (l.set k false)) rfl,←hsame Pg.many (.small c (l.set k false)) rfl,←hsame Pg.kind (.small c (l.set k false)) rfl];refine tC (ay.cl (p:=p) (S:=⟨S.ws,S.pg.set (s/64) (.small c (l.set k false))⟩) (a:=sa) (k:=sk) (m:=sm) (q:=sq) (ql:=ql) (by simp[hql])) ?_;exact rE (0:Int)
   ·rw[g1]at e0;obtain⟨k1,k2,k3,k4⟩:=hw.head _ _ g1;rw[e0,oM g1];refine bg rfl (af ?_);refine iL ?_;apply bt tk ae fC;rw[Int.toNat_natCast,uq g1,show Pg.many (.head k)=(k:Int)from rfl,bG (n:=((s/64:Nat):Int)+k)];refine Tr.take (A:=aw sk 1 _) tk<|tD (au b2 _) ?_;have hnb:∀x:Nat,s/64≤x→x<s/64+k→(S.pg.map Pg.bits).getD x []=[]:=fun x h1 h2=>by
     rcases Nat.lt_or_ge (s/64) x with c|c;·rw[kQ (k4 x c h2)];rfl
     ·rw[show x=s/64 by omega,kQ g1];rfl
    have hnm:∀x:Nat,s/64<x→x<s/64+k→(S.pg.map Pg.many).getD x 0=0:=fun x h1 h2=>by rw[uq (k4 x h1 h2)];rfl
    refine aM (fun m u M=>(fun j:Int=>∃ks:List Int,M=aw sk 1 (ks.map i64)::au p [bY sa,bY sk,bY sm,bY sq]::aw sa 1 (S.ws.map i64)::aw sm 1 ((S.pg.map Pg.many).map i64)::aw sq 1 (ql.map bY)::star (((S.pg.map Pg.bits).zip ql).map Ae)::R∧
     ((s/64:Nat):Int)≤j∧j≤((s/64:Nat):Int)+k∧m=s/64+k-j.toNat∧ks.length=S.pg.length∧∀x:Nat,x<S.pg.length→ks.getD x 0=if s/64≤x∧x<j.toNat then 0 else(S.pg.map Pg.kind).getD x 0) u.1) k ?_ ?_;·exact⟨S.pg.map Pg.kind,rfl,bu,bq,bq,bu,fun x hx=>by dsimp only;rw[if_neg ae]⟩
    ·rintro m ⟨(j:Int),⟨⟩⟩ M ⟨ks,rfl,j0,j1,rfl,hkl,hks⟩ X hX;refine ag (fun h3=>?_) (fun h3=>?_)
     ·replace h3:j<((s/64:Nat):Int)+k:=oT h3;refine af<|iL<|dr tk ae ae ?_;rw[bG (n:=j+1)];refine hX _ _ _ ae ⟨_,rfl,bq,bq,rfl,by simp[hkl],fun x hx=>?_⟩;rw[iF ae,hks x hx];by_cases hxj:j.toNat=x;·rw[if_pos hxj,if_pos ae]
      ·rw[if_neg hxj];by_cases hc:s/64≤x∧x<j.toNat;·rw[if_pos hc,if_pos ae]
       ·rw[if_neg hc,if_neg ae]
     ·replace h3:¬j<((s/64:Nat):Int)+k:=oF h3;rw[show j.toNat=s/64+k by omega]at hks;refine af<|iL ?_;apply dr tk ae fC;rw[Int.toNat_natCast];have e1:ks=(Sp.gX S.pg (s/64) k).map Pg.kind:=by refine fv 0 (by simp[hkl,gZ]) fun x hx=>?_;rw[Bl ae,hks x ae]
      have e2:(S.pg.map Pg.many).set (s/64) 0=(Sp.gX S.pg (s/64) k).map Pg.many:=by
       refine fv 0 (by simp[gZ]) fun x hx=>?_;rw[List.length_set,List.length_map]at hx;rw[iF (by simpa using hx),AX hx];by_cases hxi:s/64=x;·rw[if_pos hxi,if_pos ae]
       ·rw[if_neg hxi];by_cases hc:s/64≤x∧x<s/64+k;·rw[if_pos hc,hnm x ae hc.2]
        ·rw[if_neg hc]
      rw[e1,e2];refine Tr.imp (A:=star _) (A':=star ((((Sp.gX S.pg _ k).map _).zip ql).map Ae)) tk (fun h H=>by rw[AP hnb];exact H)<|tC (ay.cl (S:=⟨S.ws,Sp.gX _ (s/64) k⟩) (by dsimp only;rw[gZ];exact hql)) ?_;exact rT
def Pg.upto(p:Nat)(x:Pg)(i:Nat):List Int:=match x with | .small c l=>Sp.rB p c l i| .head _=>[((p*64:Nat):Int)]|_=>[]
theorem zL{p:Nat}{x:Pg}:Pg.upto p x x.bits.length=Sp.jh p x:=by cases x<;>first |rfl|exact Sp.yJ _ _ _
theorem G6{p:Nat}{x:Pg}{i:Nat}(h:i≤x.bits.length)(hb:x.bits.length≤32):(Pg.upto p x i).length≤32:=by
 cases x with
 |small c l=>exact Nat.le_trans (Sp.tY p c l i) ae
 |head k=>simp[Pg.upto]
 |_=>simp[Pg.upto]
theorem vw{pg:List Pg}(hb:∀x∈pg,x.bits.length≤32)(q:Nat)(hq:q≤pg.length):((List.range q).flatMap fun p=>Sp.jh p (pg.getD p .free)).length≤32*q:=by
 induction q with
 |zero=>simp
 |succ q ih=>
  rw[List.range_succ,List.flatMap_append,List.length_append];have h2:(Sp.jh q (pg.getD q .free)).length≤32:=by rw[←zL];refine G6 (Nat.le_refl _) (hb _ ?_);grind
  grind
theorem qE(p:Nat)(S:aJ)(hw:Wf S):Gl.Spec ρ Zp 64 [pA p] [ay p S] RS
  fun r M=>M=[aw r 1 ((Sp.each S).map i64),ay p S]:=by
 have hmost:=hw.fF;have hbits:∀x∈S.pg,x.bits.length≤32:=fun x hx=>by
  obtain⟨i,hi⟩:=List.mem_iff_getElem?.mp hx;cases x with
  |small c l=>obtain⟨h1,h2⟩:=hw.small i c l hi;simp only[Pg.bits];rw[h2];rcases Sp.eH h1 with ⟨_,e⟩|⟨_,e⟩|⟨_,e⟩|⟨_,e⟩|⟨_,e⟩<;>rw[e]<;>decide
  |_=>simp[Pg.bits]
 refine So (F.ah.aV.tZ.calls _) fun R=>Tr.cg 1<|aM (fun m u M=>(fun t (i:Int)=>M=aw t 1 (((List.range i.toNat).flatMap fun p=>Sp.jh p (S.pg.getD p .free)).map i64)::ay p S::R∧0≤i∧i≤S.pg.length∧m=S.pg.length-i.toNat) u.1 u.2.1) S.pg.length ?_ ?_;·exact⟨rfl,bu,bq,bu⟩
 ·rintro m ⟨(t:av),(i:Int),⟨⟩⟩ M ⟨rfl,i0,i1,rfl⟩ X hX;dsimp only at*;refine af (ay.op tk fun sa sk sm sq ql hql=>?_);refine iL<|Tr.fu (s:=sk) tk fun hsk=>?_;rw[List.length_map]at hsk;refine ag (fun h=>?_) (fun h=>?_)
  ·replace h:i<(sk.n:Int):=oT h;obtain⟨P,rfl⟩:=Int.eq_ofNat_of_zero_le i0;simp only[Int.toNat_natCast]at*;have hP:P<S.pg.length:=by omega
   have hx:=List.getElem?_eq_getElem hP;have hpl:=vw hbits P ae;have hgd:=mV hx;have hxb:=hbits _ (List.getElem_mem hP);have hnext:(List.range (P+1)).flatMap (fun p=>Sp.jh p (S.pg.getD p .free))=((List.range P).flatMap fun p=>Sp.jh p (S.pg.getD p .free))++Sp.jh P S.pg[P]:=by rw[List.range_succ,List.flatMap_append,List.flatMap_cons,List.flatMap_nil,List.append_nil,hgd]
   generalize(List.range P).flatMap (fun p=>Sp.jh p (S.pg.getD p .free))=acc at*;generalize hxx:S.pg[P]=x at*;refine af<|iL ?_;apply bt tk ae fC;rw[Int.toNat_natCast,oM hx];have w1:IntKind.wrap .i64 _=P+1:=bG;have w2:IntKind.wrap .i64 _=P*64:=bG;rw[w1,w2];refine tC (ay.cl hql) ?_;refine Tr.take (A:=aw t 1 _) tk ?_;have hdone:∀t':av,Tr ρ ρ (aw t' 1 ((acc++Sp.jh P x).map i64)::ay p S::R) (X (⟨t'.a,t'.n,t'.c⟩,(P:Int)+1,())) (SP RS (fun r M=>M=[aw r 1 ((Sp.each S).map i64),ay p S]) R):=fun t'=>by refine hX (S.pg.length-(P+1)) _ _ ae ⟨?_,bq,bq,bq⟩;rw[show((P:Int)+1).toNat=P+1 by omega,hnext]
   refine ag (fun h6=> ?g1) (fun h6=> ?g2);case' g1=>
    have h6:=eq_of_beq h6;obtain⟨k,rfl⟩:∃k,x= .head k:=by
     cases x with
     |head k=>exact⟨k,rfl⟩
     |small c l=>have:=(hw.small _ _ _ hx).1;simp[Pg.kind]at h6;omega
     |_=>simp[Pg.kind]at h6
    refine dm bJ tk ae fun t r=>?_;have e0:acc++[(P:Int)*64]=acc++Pg.upto P (.head k) 0:=by unfold Pg.upto;simp
    rw[e0];have hc:∀c l,Pg.head k≠.small c l→True:=fun _ _ _=>trivial;generalize Pg.head k=x at*
   case' g2=>
    have h6:x.kind≠6:=by simpa using h6
    have e0:acc=acc++Pg.upto P x 0:=by
     cases x with
     |head k=>exact absurd rfl h6
     |small c l=>simp[Pg.upto,Sp.rB]
     |_=>simp[Pg.upto]
    conv in (aw t 1 (acc.map i64))=>rw[e0]
   all_goals
    refine aM (fun m u M=>(fun t (j:Int)=>M=aw t 1 ((acc++Pg.upto P x j.toNat).map i64)::ay p S::R∧0≤j∧j≤x.bits.length∧m=x.bits.length-j.toNat) u.1 u.2.1) x.bits.length ?_ ?_;·exact⟨rfl,bu,bq,bu⟩
    ·rintro m ⟨(t:av),(j:Int),⟨⟩⟩ M ⟨rfl,j0,j1,rfl⟩ Y hY;dsimp only at*;refine af (ay.op tk fun sa sk sm sq ql hql=>?_);refine iL<|kr tk ae ae<|wk (bl:=S.pg.map _) (ql:=ql) (by simp[hql]) fC tk ?_;rw[kQ hx];refine Tr.vy tk fun hqn=>?_;rw[List.length_map]at hqn;refine ag (fun h3=>?_) (fun h3=>?_)
     ·replace h3:j<((ql.getD P kW).n:Int):=oT h3;obtain⟨c,l,rfl⟩:∃c l,x= .small c l:=by
       cases x with
       |small c l=>exact⟨c,l,rfl⟩
       |_=>simp only[Pg.bits,List.length_nil]at hqn;omega
      obtain⟨c5,hll⟩:=hw.small _ _ _ hx;simp only[Pg.bits]at*;refine af<|iL<|kr tk ae ae<|jO tk j0 ae ?_;rw[bG (n:=j+1)];have hal:=Sp.tY P c l j.toNat;refine ag (fun h4=>?_) (fun h4=>?_)
      ·have hone:=Sp.yK (p:=P) (c:=c) h4;refine aA (aK [au p [bY sa,bY sk,bY sm,bY sq],aw sk 1 _] ar (af ?_));refine jL ?_;apply vO tk tk ae fC;rw[Int.toNat_natCast,oM hx];apply ai (oW) ar;rintro s M ⟨hs,rfl⟩;refine aS ar (kK [aw s 1 _,au p [bY sa,bY sk,bY sm,bY sq],aw sk 1 _] ar (fun w h=>h.sub ar) ?_);rw[show IntKind.wrap .i64 (Pg.kind (.small c l)-1)=(c:Int) by simp only[Pg.kind];rw[bG];omega];apply vO tk tk ae (by show _<5;omega);rw[Int.toNat_natCast,Sp.pG c5];refine tD _ ?_;have hjl:j.toNat<l.length:=by omega
       obtain⟨f1,f2,f3⟩:=m9 c5 hjl hll;have em:j*(Sp.sz c:Nat)=((j.toNat*Sp.sz c:Nat):Int):=by rw[Int.natCast_mul];congr 1;omega
       rw[em,wrap64 (n:=((j.toNat*Sp.sz c:Nat):Int)) ae ae,wrap64 (n:=(P:Int)*64+((j.toNat*Sp.sz c:Nat):Int)) ae ae];refine uG (bl:=S.pg.map _) (ql:=ql) (by simp[hql]) fC (by rw[kQ hx];exact ar)<|tC (ay.cl hql) ?_;refine dm bJ tk (by simp only[Pg.upto,List.length_append];omega) fun r hr=>hY (l.length-(j+1).toNat) _ _ ae ⟨?_,bq,bq,rfl⟩;rw[show(j+1).toNat=j.toNat+1 by omega,List.append_assoc];simp only[Pg.upto];rw[hone,show((P:Int)*64+((j.toNat*Sp.sz c:Nat):Int))=((P*64+j.toNat*Sp.sz c:Nat):Int) by omega]
      ·have hskip:=Sp.rG (p:=P) (c:=c) (q:=j.toNat) (k:=j.toNat+1) (fun j' h1 h2=>by rw[show j'=j.toNat by omega,h4];simp) ae;refine uG (bl:=S.pg.map _) (ql:=ql) (by simp[hql]) fC (by rw[kQ hx];exact ar)<|tC (ay.cl hql) ?_;refine Tr.take (A:=aw t 1 _) tk<|hY (l.length-(j+1).toNat) _ _ ae ⟨?_,bq,bq,rfl⟩;rw[show(j+1).toNat=j.toNat+1 by omega];simp only[Pg.upto];rw[hskip]
     ·replace h3:¬j<((ql.getD P kW).n:Int):=oF h3;rw[show j.toNat=x.bits.length by omega,zL];refine uG (bl:=S.pg.map _) (ql:=ql) (by simp[hql]) fC (by rw[kQ hx];exact ar)<|tC (ay.cl hql) ?_;exact Tr.take (A:=aw t 1 _) tk<|hdone t
  ·replace h:¬i<(sk.n:Int):=oF h;refine tC (ay.cl hql) ?_;rw[show i.toNat=S.pg.length by omega];exact rT rfl
theorem sY(p:Nat)(S:aJ)(hw:Wf S):Gl.Spec ρ Zp 62 [pA p] [ay p S] R1
  fun r M=>r=((Sp.each S).map (Sp.cV S)).sum∧M=[ay p S]:=by
 have hel:=Sp.df hw;refine So (F.ah.aV.Used.calls _) fun R=>ai (qE p S hw) ar ?_;rintro s M rfl;refine Tr.cL tk fun ρ' hle hro=>?_;have hsn:=hro.len;refine aM (fun m u M=>(fun(n i:Int)=>M=ay p S::R∧0≤i∧i≤(Sp.each S).length∧m=(Sp.each S).length-i.toNat∧n=(((Sp.each S).take i.toNat).map (Sp.cV S)).sum∧0≤n∧n≤1024*i) u.1 u.2.1) (Sp.each S).length ?_ ?_;·exact⟨rfl,bu,bq,bu,bu,bu,bu⟩
 ·rintro m ⟨(n:Int),(i:Int),⟨⟩⟩ M ⟨rfl,i0,i1,rfl,hn,n0,n1⟩ X hX;dsimp only at*;refine ag (fun h=>?_) (fun h=>?_)
  ·replace h:i<(s.n:Int):=oT h;have hi:i.toNat<(Sp.each S).length:=by omega
   have ht:(Sp.each S).take (i+1).toNat=(Sp.each S).take i.toNat++[(Sp.each S).getD i.toNat 0]:=by rw[show(i+1).toNat=i.toNat+1 by omega,aE 0 hi]
   have hmem:(Sp.each S).getD i.toNat 0∈Sp.each S:=by rw[List.getD_eq_getElem?_getD,List.getElem?_eq_getElem hi];exact List.getElem_mem _
   apply cC hro i0 ae;generalize(Sp.each S).getD i.toNat 0=a at ht hmem⊢;obtain⟨b,rfl,_,w,hf,w1,w2,_⟩:=Sp.jD hw hmem;apply cE (tc p S hw b);rw[hf];simp only[Rf.Lq];have hwa:Sp.cV S b=w:=by unfold Sp.cV;rw[hf]
   rw[wrap64 (n:=n+(w:Int)) ae ae,wrap64 (n:=i+1) ae ae];refine hX ((Sp.each S).length-(i+1).toNat) _ _ ae ⟨rfl,bq,bq,rfl,?_,bq,bq⟩;rw[ht,List.map_append,List.sum_append,←hn];simp[hwa]
  ·replace h:¬i<(s.n:Int):=oF h;rw[List.take_of_length_le ae]at hn;refine ax ?_ ⟨rfl,rfl⟩ ar bE;rw[←hn];rfl
theorem vP:∀(n:Nat) (h:HP),emp h→star (((List.replicate n ([]:List Bool)).zip (List.replicate n kW)).map Ae) h
 |0,h,H=>H
 |n+1,h,H=>by exact⟨fun _=>none,h,fun _=> .inl rfl,bu,aw.nil 1 _ (fun _=>rfl),vP n h H⟩
theorem ay.LV{b:Nat}{n:Int}{a k m q:av}(h:HP) (H:star [au b [bY a,bY k,bY m,bY q],aw a 1 (List.replicate (n*64).toNat (Value.cells (.int .i64 0)).toList).flatten,aw k 1 (List.replicate n.toNat (Value.cells (.int .i64 0)).toList).flatten,
  aw m 1 (List.replicate n.toNat (Value.cells (.int .i64 0)).toList).flatten,aw q 1 (List.replicate n.toNat (Value.cells (.slice none 0 0)).toList).flatten] h):ay b ⟨List.replicate (n*64).toNat 0,List.replicate n.toNat .free⟩ h:=by refine⟨((a,k,m,q),List.replicate n.toNat kW),bu,?_⟩;rw[show(Value.cells (.int .i64 0)).toList=[i64 0]from rfl,show(Value.cells (.slice none 0 0)).toList=[bY kW]from rfl,z6,z6,z6]at H;rw[List.map_replicate,List.map_replicate,List.map_replicate,List.map_replicate,List.map_replicate,List.map_replicate,List.map_replicate,show Pg.bits .free=[]from rfl,show Pg.kind .free=0 from rfl,show Pg.many .free=0 from rfl];refine eZ (fun _ h=>h) (fun _=>eZ (fun _ h=>h) (fun _=>eZ (fun _ h=>h) (fun _=>eZ (fun _ h=>h) (fun _=>eZ (fun _ h=>h) (fun h' he=>?_))))) H;exact ye (vP _ _ he)
theorem JY(n:Int)(h0:1≤n)(h1:n≤256):Gl.Spec ρ Zp 100 [i64 n] [] (.one (.l .ptr))
  fun r M=>∃b,r=oA b∧M=[ay b (Sp.ch n.toNat)]:=by
 refine So (F.ah.mB.calls n) fun R=>?_;unfold F.ah.mB;rw[bG (n:=n*64)];refine iV (fun u M=>∃b,u.1=⟨b,0,none⟩∧M=ay b ⟨List.replicate (n*64).toNat 0,List.replicate n.toNat .free⟩::R) ?_ ?_
 ·rintro⟨(u:Addr),⟨⟩⟩ M ⟨b,rfl,rfl⟩;refine ay.op tk fun sa sk sm sq ql hql=>iL<|dr (xs:=(List.replicate _ _).map _) tk ae fC ?_;obtain⟨k,hk⟩:∃k,n.toNat=k+1:=⟨n.toNat-1,ae⟩;have e1:((List.replicate n.toNat Pg.free).map Pg.kind).set (0:Int).toNat (-1)=(Sp.ch n.toNat).pg.map Pg.kind:=by rw[hk];simp[Sp.ch,List.replicate_succ,Pg.kind]
  have e2:(List.replicate n.toNat Pg.free).map Pg.many=(Sp.ch n.toNat).pg.map Pg.many:=by rw[hk];simp[Sp.ch,List.replicate_succ,Pg.many]
  have e3:(List.replicate n.toNat Pg.free).map Pg.bits=(Sp.ch n.toNat).pg.map Pg.bits:=by rw[hk];simp[Sp.ch,List.replicate_succ,Pg.bits]
  have e4:List.replicate (n*64).toNat 0=(Sp.ch n.toNat).ws:=by unfold Sp.ch;rw[show(n*64).toNat=n.toNat*64 by omega]
  rw[e1,e2,e3,e4];refine tC (ay.cl (S:=Sp.ch n.toNat) (by rw[hql,hk];simp[Sp.ch])) ?_;exact rT ⟨b,rfl,rfl⟩
 ·intro J hJ;refine aA (aK [] .nil ?_);have m1:∀{ρ0 ρ:FR} {L:List aD} {Post:Value→List aD→Prop} {k:RT (.one (.l .slice))→Tree},(∀b,Tr ρ0 ρ (aw ⟨oA b,(n*64).toNat,(n*64).toNat⟩ 1 (List.replicate (n*64).toNat (Value.cells (.int .i64 0)).toList).flatten::L) (k ⟨oA b,(n*64).toNat,(n*64).toNat⟩) Post)→
    Tr ρ0 ρ L (cM Zp (Instr.makeSlice 43 (.int .i64 (n*64)) (.int .i64 (n*64))) (.one (.l .slice)) k) Post:=fun h=>
   mg (e:=3) (m:=1) (bytes:=8) (z:= .int .i64 0) (by kernel_rfl) (by kernel_rfl) rfl (by omega) (by omega) (by omega) h;have m2:∀{ρ0 ρ:FR} {L:List aD} {Post:Value→List aD→Prop} {k:RT (.one (.l .slice))→Tree},(∀b,Tr ρ0 ρ (aw ⟨oA b,n.toNat,n.toNat⟩ 1 (List.replicate n.toNat (Value.cells (.int .i64 0)).toList).flatten::L) (k ⟨oA b,n.toNat,n.toNat⟩) Post)→
    Tr ρ0 ρ L (cM Zp (Instr.makeSlice 43 (.int .i64 n) (.int .i64 n)) (.one (.l .slice)) k) Post:=fun h=>
   mg (e:=3) (m:=1) (bytes:=8) (z:= .int .i64 0) (by kernel_rfl) (by kernel_rfl) rfl (by omega) (by omega) (by omega) h;have m3:∀{ρ0 ρ:FR} {L:List aD} {Post:Value→List aD→Prop} {k:RT (.one (.l .slice))→Tree},(∀b,Tr ρ0 ρ (aw ⟨oA b,n.toNat,n.toNat⟩ 1 (List.replicate n.toNat (Value.cells (.slice none 0 0)).toList).flatten::L) (k ⟨oA b,n.toNat,n.toNat⟩) Post)→
    Tr ρ0 ρ L (cM Zp (Instr.makeSlice 174 (.int .i64 n) (.int .i64 n)) (.one (.l .slice)) k) Post:=fun h=>
   mg (e:=189) (m:=1) (bytes:=24) (z:= .slice none 0 0) (by kernel_rfl) (by kernel_rfl) rfl (by omega) (by omega) (by omega) h
  repeat' first
   |with_reducible refine cr ?_ ?_
   |with_reducible refine aS .nil ?_
   |with_reducible refine m3 fun _=>?_
   |with_reducible refine m2 fun _=>?_
   |with_reducible refine m1 fun _=>?_
   |refine aq fun b=>tC (ay.LV) (hJ _ _ ⟨b,rfl,rfl⟩)
abbrev HX:RK:= .one (.g [kI,kI,kI,.bool,.bool])
def Rf.hd:Option Hd→RT HX
 |some h=>(h.k,h.c,h.n,h.f,true,())|none=>((0:Int),(0:Int),(0:Int),false,false,())
theorem vz:zc Zp 172=[.int .i64 0,.int .i64 0,.int .i64 0,.bool false,.bool false]:=by kernel_rfl
theorem ur(h:Hd):Gl.Spec ρ Zp 144 [lC h] [] RB fun r M=>r=Sp.fk h∧M=[]:=by
 refine So (F.ah.xb.calls h.t) fun R=>?_;obtain⟨k,c,n,f⟩:=h;refine aq fun b1=>iL<|ag (fun h=>?_) (fun h=>?_);·replace h:n<0:=oT h;refine ax ?_ ⟨rfl,rfl⟩ ar bE;rw[show Sp.fk ⟨k,c,n,f⟩=false by unfold Sp.fk;rw[decide_eq_false bq];rfl];rfl
 ·replace h:¬n<0:=oF h;refine iL<|ag (fun h2=>?_) (fun h2=>?_);·replace h2:n>1023:=oT h2;refine ax ?_ ⟨rfl,rfl⟩ ar bE;rw[show Sp.fk ⟨k,c,n,f⟩=false by unfold Sp.fk;rw[decide_eq_false bq];rfl];rfl
  ·replace h2:¬n>1023:=oF h2;have e0:Sp.fk ⟨k,c,n,f⟩=(if k=1 then decide (1≤c∧c≤256)else if k=2∨k=3 then decide (0≤c∧c≤0)else if k=4 then decide (1≤c∧c≤3)&&(n==5)&& !f else false):=by unfold Sp.fk;rw[decide_eq_true bq,Bool.true_and]
   rw[e0];refine iL<|ag (fun h3=>?_) (fun h3=>?_)
   ·have h3:=eq_of_beq h3;rw[if_pos h3];refine iL<|ag (fun h4=>?_) (fun h4=>?_);·replace h4:c≥1:=oT h4;refine iL<|ax ?_ ⟨rfl,rfl⟩ ar bE;rw[show decide (1≤c∧c≤256)=decide (c≤256) by rw[decide_eq_decide];omega];rfl
    ·replace h4:¬c≥1:=oF h4;refine ax ?_ ⟨rfl,rfl⟩ ar bE;rw[decide_eq_false ae];rfl
   ·have h3:k≠1:=by simpa using h3
    rw[if_neg h3];have z0:decide (0≤c∧c≤0)=(c==0):=by rw[Bool.eq_iff_iff,decide_eq_true_iff,beq_iff_eq];omega
    rw[z0];refine ag (fun h4=>?_) (fun h4=>?_);·have h5:=eq_of_beq h4;rw[if_pos (.inl h5)];exact bT<|iL<|rT
    ·have h5:k≠2:=by simpa using h4
     refine ag (fun h6=>?_) (fun h6=>?_);·rw[if_pos (.inr (eq_of_beq h6))];exact iL<|rT
     ·have h7:k≠3:=by simpa using h6
      rw[if_neg ae];refine ag (fun h8=>?_) (fun h8=>?_)
      ·rw[if_pos (eq_of_beq h8)];refine iL<|ag (fun h9=>?_) (fun h9=>?_)
       ·replace h9:c≥1:=oT h9;refine iL<|ag (fun ha=>?_) (fun ha=>?_)
        ·replace ha:c≤3:=oT ha;rw[decide_eq_true ⟨h9,ha⟩,Bool.true_and];refine iL<|ag (fun hb=>?_) (fun hb=>?_);·rw[hb,Bool.true_and];exact iL<|rT
         ·rw[hb];exact rT
        ·replace ha:¬c≤3:=oF ha;rw[decide_eq_false ae];exact rT
       ·replace h9:¬c≥1:=oF h9;rw[decide_eq_false ae];exact rT
      ·have:k≠4:=by simpa using h8
       rw[if_neg this];exact rT
theorem tJ(h:Hd)(hm:Sp.fk h=true):Gl.Spec ρ Zp 184 [lC h] [] R1 fun r M=>r=Sp.fV h∧M=[]:=by
 refine So (F.ah.wT.calls h.t) fun R=>?_;have hb:=Sp.cb hm;obtain⟨k,c,n,f⟩:=h;dsimp only at hb;refine aq fun b1=>iL<|iL<|iL<|iL ?_;rw[wrap64 (n:=16*c) ae ae,wrap64 (n:=k+16*c) ae ae,wrap64 (n:=65536*n) ae ae,wrap64 (n:=k+16*c+65536*n) ae ae,wrap64 (n:=k+16*c+65536*n+8) ae ae];cases f with
 |true=>exact bT<|rT
 |false=>refine bF<|ax ?_ ⟨rfl,rfl⟩ ar bE;simp[Sp.fV,RK.val,KD.val,LK.val]
theorem tE(h:Hd)(hm:Sp.fk h=true):Gl.Spec ρ Zp 183 [i64 (Sp.fV h)] [] HX fun r M=>r=Rf.hd (some h)∧M=[]:=by
 refine So (F.ah.w7.calls _) fun R=>?_;obtain⟨g1,g2,g3,g4,g5,g6⟩:=Sp.vg hm;have hb:=Sp.cb hm;refine aq fun b1=>?_;rw[vz];have hlt:Sp.fV h<67108864:=by unfold Sp.fV;split<;>omega
 have g7:Int.tmod (IntKind.wrap .i64 (Int.tdiv (Sp.fV h) 16)) 4096=h.c:=by rw[Int.tdiv_eq_ediv_of_nonneg g5,bG,Int.tmod_eq_emod_of_nonneg ae];unfold Sp.fV;split<;>omega
 refine ak (decide_eq_false ae) (ak (decide_eq_false ae) ?_);refine bm bd (bm bd (bm bd (bm bd (bm bd (bm bd ?_)))));refine aq fun b2=>?_;rw[EX,g7,wrap64 (n:=Int.tdiv (Sp.fV h) 8) (by rw[Int.tdiv_eq_ediv_of_nonneg g5];omega) (by rw[Int.tdiv_eq_ediv_of_nonneg g5];omega),g1,g2,g4,wrap64 (n:=h.n) ae ae];obtain⟨k,c,n,f⟩:=h;refine iT ?_;refine aN (x:=(k,c,n,f,())) [] rfl tk rfl<|cE (ur (Hd.mk k c n f)) ?_;rw[hm];refine bF<|aN (x:=(k,c,n,f,())) [] rfl tk rfl<|iT ?_;exact aN (x:=(k,c,n,f,true,())) [] rfl tk rfl<|rT
def ct(p:Nat)(S:aJ)(l:List (aX×av)):aD:=fun h=>∃i:Nat×av,i.2.n=l.length∧star [au p [pA i.1,bY i.2],ay i.1 S,aw i.2 2 (l.flatMap iX),star (l.map nJ)] h
abbrev dK(l:List (aX×av)):List aX:=l.map (·.1)
theorem ct.op{p:Nat}{S:aJ}{l:List (aX×av)}(t:Take L (ct p S l) L')(h:∀(ps:Nat) (s:av),s.n=l.length→Tr ρ0 ρ (au p [pA ps,bY s]::ay ps S::aw s 2 (l.flatMap iX)::star (l.map nJ)::L') T Post):Tr ρ0 ρ L T Post:=
 Tr.iW (M:=fun i:Nat×av=>[au p [pA i.1,bY i.2],ay i.1 S,aw i.2 2 (l.flatMap iX),star (l.map nJ)]) t (fun _ h=>h) fun i hi=>h i.1 i.2 hi
theorem ct.cl{p ps:Nat}{S:aJ}{l:List (aX×av)}{s:av}(hs:s.n=l.length)(h:HP)(H:star [au p [pA ps,bY s],ay ps S,aw s 2 (l.flatMap iX),star (l.map nJ)] h):ct p S l h:=⟨(ps,s),hs,H⟩
theorem KV(n:Int)(h0:1≤n)(h1:n≤256):Gl.Spec ρ Zp 39 [i64 n] [] (.one (.l .ptr)) fun r M=>∃b,r=oA b∧M=[ct b (Sp.ch n.toNat) []]:=by refine So (F.aa.xW.calls n) fun R=>ai (JY n h0 h1) ar ?_;rintro x' M ⟨ps,rfl,rfl⟩;refine aq fun b=>Tr.none (Tr.cg 2 ?_);exact Tr.close ar (ct.cl (l:=[]) (s:=kW) rfl)<|rT ⟨b,rfl,rfl⟩
theorem rv{s:av}{l:List (aX×av)}{c:aX×av}{i:Int}{f:Addr→Tree}(t:Take L (aw s 2 (l.flatMap iX)) L')(h0:0≤i)(hi:l[i.toNat]? =some c)(h:∀a0,s.a=some a0→(∀e v,e<2→(iX c)[e]? =some v→(l.flatMap iX)[i.toNat*2+e]? =some v)→Tr ρ0 ρ L (f (fa a0 (i.toNat*2))) Post):
  Tr ρ0 ρ L (ix s.a s.n i 2 f) Post:=by have hlt:=cf hi;refine Tr.fA t fun hn _=>?_;rw[ji (g:=iX) (m:=2) (fun _=>rfl)]at hn;exact bD t h0 ae fun a0 ha=>h a0 ha fun e v he hv=>by rw[eJ (m:=2) (fun _=>rfl) hi he];exact hv
theorem vV{cs:List aX}{c:Int}{x:aX}(h:Sp.iI cs c=some x):1≤c∧c≤cs.length∧cs[(c-1).toNat]? =some x:=by obtain⟨i,rfl,hi⟩:=Sp.nv h;grind
theorem Kh(p:Nat)(S:aJ)(l:List (aX×av))(hw:aY S (dK l))(h:Hd):Gl.Spec ρ Zp 237 [pA p,lC h] [ct p S l] R1
  fun r M=>r=Ob.may (dK l) h∧M=[ct p S l]:=by
 have jb:=hw.cls;refine So (F.aa.bN.Hp.calls _ h.t) fun R=>?_;obtain⟨k,c,n,f⟩:=h;unfold F.aa.bN.Hp;try simp only[c8,c9]
 refine aq fun b1=>iG ?_;apply cE (ur ⟨k,c,n,f⟩);try simp only[c8,c9]
 refine ag (fun h=>?_) (fun h=>?_)
 ·have h:Sp.fk ⟨k,c,n,f⟩=false:=by simpa using h
  rw[show Ob.may (dK l) ⟨k,c,n,f⟩=1 by unfold Ob.may;rw[if_pos (.inl h)]];exact rT
 ·have h:Sp.fk ⟨k,c,n,f⟩=true:=by simpa using h
  have hb:=Sp.cb h;dsimp only at hb;refine iL<|ag (fun h2=>?_) (fun h2=>?_);·rw[show Ob.may (dK l) ⟨k,c,n,f⟩=1 by unfold Ob.may;rw[if_pos (.inr h2)]];exact rT
  ·have e0:Ob.may (dK l) ⟨k,c,n,f⟩=if k≠1 then 0 else match Sp.iI (dK l) c with |some c=>if c.1≠n then 1 else 0|none=>2:=by unfold Ob.may;rw[if_neg (by rintro(e|e)<;>simp_all)];rfl
   rw[e0];refine iL<|ag (fun h3=>?_) (fun h3=>?_)
   ·have h3:k=1:=eq_of_beq h3;have hc1:1≤c:=by unfold Sp.fk at h;dsimp only at h;rw[if_pos h3,Bool.and_eq_true,decide_eq_true_iff,decide_eq_true_iff]at h;exact h.2.1
    rw[if_neg (by simp[h3])];refine aA<|lI b1 1 c<|af (ct.op tk fun ps s hs=>?_);refine iL ?_;have hll:(dK l).length=l.length:=by simp
    refine ag (fun h4=>?_) (fun h4=>?_)
    ·replace h4:c>(s.n:Int):=oT h4;have:Sp.iI (dK l) c=none:=by unfold Sp.iI;rw[if_neg ae]
     rw[this];refine tC (ct.cl (p:=p) (ps:=ps) (S:=S) (l:=l) (s:=s) hs) ?_;exact rT
    ·replace h4:¬c>(s.n:Int):=oF h4;have hlt:(c-1).toNat<l.length:=by omega
     have hx:l[(c-1).toNat]? =some l[(c-1).toNat]:=List.getElem?_eq_getElem hlt;generalize l[(c-1).toNat]=x at hx;have:Sp.iI (dK l) c=some x.1:=by unfold Sp.iI;rw[if_pos ae,List.getElem?_map,hx];rfl
     rw[this];dsimp only;refine aA (af ?_);refine lS p 1 s<|lI b1 1 c ?_;rw[wrap64 (n:=c-1) (by omega) (by omega)];refine rv (s:=s) tk (by omega) hx fun a0 ha hcell=>cw (k:=kI) (s:=s) (j:=(c-1).toNat*2+0) (x:=x.1.1) ha tk (by rintro b o rfl;simp[aO]) (hcell 0 _ (by decide) rfl)<|lI b1 2 n<|tC (ct.cl (p:=p) (ps:=ps) (S:=S) (l:=l) (s:=s) hs)<|ag (fun h5=>?_) (fun h5=>?_);·rw[if_pos (by simpa using h5)];exact rT
     ·rw[if_neg (by simpa using h5)];exact rT
   ·have h3:k≠1:=by simpa using h3
    rw[if_pos h3];exact rT
theorem Cn(p:Nat)(S:aJ)(l:List (aX×av))(hw:aY S (dK l))(h:Hd):Gl.Spec ρ Zp 182 [pA p,lC h] [ct p S l] G2
  fun r M=>r=((Ob.make S (dK l) h).1,(Ob.make S (dK l) h).2.1,())∧M=[ct p (Ob.make S (dK l) h).2.2 l]:=by
 refine So (F.aa.bN.Make.calls _ h.t) fun R=>?_;obtain⟨k,c,n,f⟩:=h;refine aq fun b1=>aq fun b2=>?_;rw[gk];refine iG ?_;refine cE (Kh p S l hw ⟨k,c,n,f⟩)<|ag (fun h1=>?_) (fun h1=>?_)
 ·have h1:Ob.may (dK l) ⟨k,c,n,f⟩≠0:=by simpa using h1
  have e:Ob.make S (dK l) ⟨k,c,n,f⟩=(0,Ob.may (dK l) ⟨k,c,n,f⟩,S):=by unfold Ob.make;rw[if_pos h1]
  rw[e];refine iT ?_;exact aN (x:=(_,Ob.may _ ⟨k,c,n,f⟩,())) [] rfl tk rfl<|rT
 ·have h1:Ob.may (dK l) ⟨k,c,n,f⟩=0:=by simpa using h1
  obtain⟨hm,hf⟩:=Ob.nR h1;have hb:=Sp.cb hm;dsimp only at hb;refine ct.op tk fun ps s hs=>aA (aK [au p [.pointer _,bY s],au _ [.int _ k,.int _ c,.int _ n,.bool f]] ar (af ?_));refine jL<|jL ?_;rw[bG (n:=n+1)];refine cr ?g1 ?g2;case' g1=>
   apply cE (yB _ S hw.wf _);try simp only[c8,c9]
   refine aq fun b3=>?_
  case' g2=>refine aq fun b3=>cK<|cE (yB _ S hw.wf _) ?_;try simp only[c8,c9]
  all_goals
   refine iT ?_;refine lI _ 1 _<|ag (fun h2=>?_) (fun h2=>?_)
   ·have h2:=eq_of_beq h2;have e:Ob.make S (dK l) ⟨k,c,n,f⟩=((Sp.alloc S (n+1)).1,0,⟨(Sp.alloc S (n+1)).2.2.ws.set (Sp.alloc S (n+1)).1.toNat (Sp.fV ⟨k,c,n,f⟩),(Sp.alloc S (n+1)).2.2.pg⟩):=by unfold Ob.make;rw[if_neg (by simp[h1]),if_neg (by simp[h2])]
    rw[e];obtain⟨a,m,ha,hm2,m1,m2,m3,m4,m5⟩:=Sp.uO hw.wf h2;rw[h2];generalize Sp.alloc S (n+1)=al at*;obtain⟨a',e',S'⟩:=al;subst ha;refine ay.op tk fun sa sk sm sq ql hql=>aA (aK [au p [.pointer _,bY s],au _ [bY sa,bY sk,bY sm,bY sq],au _ [i64 a,i64 0],au _ [.int _ k,.int _ c,.int _ n,.bool f]] ar (af ?_));refine hP p 0 _ (af ?_);refine jL<|jL<|jG ?_;apply cE (tJ ⟨k,c,n,f⟩ hm);refine cK<|dr tk ae ae<|tC (ay.cl (S:=⟨S'.ws.set (a:Int).toNat _,S'.pg⟩) hql) ?_;refine tC (ct.cl hs) ?_;refine aN (x:=((a:Int),_,())) [] rfl tk rfl<|iT ?_;exact aN [] rfl tk rfl<|rT
   ·have h2:(Sp.alloc S (n+1)).2.1≠0:=by simpa using h2
    have e:Ob.make S (dK l) ⟨k,c,n,f⟩=(0,(Sp.alloc S (n+1)).2.1,S):=by unfold Ob.make;rw[if_neg (by simp[h1]),if_pos h2]
    have e1:(Sp.alloc S (n+1)).1=0:=by
     unfold Sp.alloc at h2⊢;split;·rfl
     ·rename_i hc;rw[if_neg hc]at h2;split;·rename_i hd;rw[if_pos hd]at h2;exact absurd rfl h2
      ·rfl
    rw[e,Sp.wC h2];refine tC (ct.cl hs) ?_;refine aN (x:=((Sp.alloc S _).1,(Sp.alloc S _).2.1,())) [] rfl tk rfl<|iT ?_;apply aN [] rfl tk rfl;rw[e1];exact rT
theorem ib(p:Nat)(S:aJ)(l:List (aX×av))(hw:aY S (dK l))(a:Int):Gl.Spec ρ Zp 123 [pA p,i64 a] [ct p S l] HX
  fun r M=>r=Rf.hd (Ob.head S a)∧M=[ct p S l]:=by
 refine So (F.aa.bN.Head.calls _ a) fun R=>aq fun b1=>?_;rw[vz];refine af (ct.op tk fun ps s hs=>?_);refine iL<|cE (tc _ S hw.wf a)<|aq fun b5=>?_;rw[LX];cases hf:Sp.find S a with
 |none=>
  have e:Ob.head S a=none:=by unfold Ob.head;rw[hf]
  rw[e];refine iT<|aT bL tk rfl ?_;refine bT<|iT ?_;refine aN (x:=(_,_,_,false,false,())) [] rfl tk rfl<|tC (ct.cl hs) ?_;exact rT
 |some x=>
  obtain⟨b,w⟩:=x;refine iT<|aT bL tk rfl ?_;refine bF<|lI _ 0 b<|ag (fun h=>?_) (fun h=>?_)
  ·have h:¬b=a:=by simpa using h
   have e:Ob.head S a=none:=by unfold Ob.head;rw[hf];dsimp only;rw[if_neg h]
   rw[e];refine iT ?_;refine aN (x:=(_,_,_,false,false,())) [] rfl tk rfl<|tC (ct.cl hs) ?_;exact rT
  ·have h:b=a:=by simpa using h
   subst h;have e:Ob.head S b=some (Sp.uf (S.ws.getD b 0)):=by unfold Ob.head;rw[hf];dsimp only;rw[if_pos rfl]
   obtain⟨n,w',en,g1,g2,g3,g4,g5⟩:=Ob.bU hw e;have en:n=b:=by omega
   subst en;rw[e];generalize Sp.uf (S.ws.getD n 0)=hd at g2 g3 g4⊢;have hb:=Sp.cb g3;refine iN<|af (ay.op tk fun sa sk sm sq ql hql=>?_);refine iL<|bt tk ae ae ?_;rw[Int.toNat_natCast,g2];refine tC (ay.cl hql) ?_;refine tC (ct.cl hs)<|cE (tE _ g3) ?_;refine iT ?_;exact aN (x:=(hd.k,hd.c,hd.n,hd.f,true,())) [] rfl tk rfl<|rT
theorem kG(p:Nat)(S:aJ)(l:List (aX×av))(hw:aY S (dK l))(a i:Int):Gl.Spec ρ Zp 47 [pA p,i64 a,i64 i] [ct p S l] G2
  fun r M=>r=((Ob.get S a i).1,(Ob.get S a i).2,())∧M=[ct p S l]:=by
 have hmost:=hw.wf.fF;have hlen:=hw.wf.len;refine So (F.aa.bN.Field.calls _ a i) fun R=>?_;unfold F.aa.bN.Field;try simp only[c8,c9]
 refine aq fun b1=>?_;rw[gk];apply cE (ib p S l hw a);try simp only[c8,c9]
 refine aq fun b3=>?_;rw[vz];cases hh:Ob.head S a with
 |none=>
  have e:Ob.get S a i=(0,2):=by unfold Ob.get Ob.fieldAt;rw[hh];rfl
  rw[e];simp only[Rf.hd];refine iT<|aT bL tk rfl ?_;refine bT<|iT ?_;exact aN (x:=(_,_,())) [] rfl tk rfl<|rT
 |some hd=>
  obtain⟨n,w,rfl,_,_,g3,g4,g5⟩:=Ob.bU hw hh;have hb:=Sp.cb g3;simp only[Rf.hd];refine iT<|aT bL tk rfl ?_;have bad:(i<0∨i≥hd.n)→Ob.get S n i=(0,1):=fun hc=>by unfold Ob.get Ob.fieldAt;rw[hh];dsimp only;simp only[if_pos hc];rfl
  refine ak rfl (ag (fun h1=>?_) (fun h1=>?_));·rw[bad (.inl (oT h1))];refine iT ?_;exact aN (x:=(_,_,())) [] rfl tk rfl<|rT
  ·have h1:=oF h1;refine aT bL tk rfl<|ag (fun h2=>?_) (fun h2=>?_);·rw[bad (.inr (oT h2))];refine iT ?_;exact aN (b:=b1) (x:=((0:Int),(1:Int),())) [] rfl tk rfl<|rE ((0:Int),(1:Int),())
   ·have h2:=oF h2;rw[Ob.eb hh (by omega) (by omega)];refine af (ct.op tk fun ps s hs=>?_);refine lP p 0 ps<|af (ay.op tk fun sa sk sm sq ql hql=>?_);apply lS ps 0 sa;rw[wrap64 (n:=(n:Int)+1) (by omega) (by omega),wrap64 (n:=(n:Int)+1+i) (by omega) (by omega)];refine bt (s:=sa) (xs:=S.ws) tk (by omega) (by omega)<|tC (ay.cl (p:=ps) (S:=S) (a:=sa) (k:=sk) (m:=sm) (q:=sq) hql) ?_;refine tC (ct.cl (p:=p) (ps:=ps) (S:=S) (l:=l) (s:=s) hs) ?_;apply sT b1 0;exact aN (x:=(S.ws.getD (_+1+i).toNat 0,_,())) [] rfl tk rfl<|rT
theorem kb(p:Nat)(S:aJ)(l:List (aX×av))(hw:aY S (dK l))(a i x:Int):Gl.Spec ρ Zp 49 [pA p,i64 a,i64 i,i64 x] [ct p S l] R1
  fun r M=>r=(Ob.put S a i x).1∧M=[ct p (Ob.put S a i x).2 l]:=by
 have hmost:=hw.wf.fF;have hlen:=hw.wf.len;refine So (F.aa.bN.Ge.calls _ a i x) fun R=>cE (kG p S l hw a i)<|aq fun b2=>?_;rw[gk];refine iT ?_;apply lI _ 1 _;have hge:(Ob.get S a i).2=(Ob.fieldAt S a i).2:=by unfold Ob.get;split<;>simp_all
 refine ag (fun h=>?_) (fun h=>?_)
 ·have h:(Ob.get S a i).2=0:=eq_of_beq h;rw[hge]at h;obtain⟨hd,h1,h2,h3,h4,h5,h6⟩:=Ob.gv hw h;have e:Ob.put S a i x=(0,⟨S.ws.set (Ob.fieldAt S a i).1.toNat x,S.pg⟩):=by unfold Ob.put;rw[if_neg (by simp[h])]
  rw[e,h4,wrap64 (n:=a+1) (by omega) (by omega),wrap64 (n:=a+1+i) (by omega) (by omega)];refine af (ct.op tk fun ps s hs=>?_);refine lP p 0 ps<|af (ay.op tk fun sa sk sm sq ql hql=>?_);refine iL<|dr tk ae ae<|tC (ay.cl (S:=⟨S.ws.set (a+1+i).toNat x,S.pg⟩) hql) ?_;refine tC (ct.cl hs) ?_;apply lI _ 1 _;rw[hge,h];exact rT
 ·have h:(Ob.get S a i).2≠0:=by simpa using h
  rw[hge]at h;have e:Ob.put S a i x=((Ob.fieldAt S a i).2,S):=by unfold Ob.put;rw[if_pos h]
  rw[e];apply lI _ 1 _;rw[hge];exact rT
theorem yn(n:Int)(s:av)(xs:List Int)(hs:fx ρ s 1 (xs.map i64))(hl:xs.length≤2^30):Gl.Spec ρ Zp 180 [.agg #[.int .i64 n,.slice s.a s.n s.c]] [] RB
  fun r M=>r=Sp.kA n xs∧M=[]:=by
 refine So (F.ah.og.calls (n,s,())) fun R=>?_;have hn:=hs.len;refine aq fun b=>iL<|ag (fun h=>?_) (fun h=>?_);·refine ax ?_ ⟨rfl,rfl⟩ ar bE;rw[Sp.kA,if_pos (oT h)];rfl
 ·replace h:=oF h;refine iL<|ag (fun h2=>?_) (fun h2=>?_);·refine ax ?_ ⟨rfl,rfl⟩ ar bE;rw[Sp.kA,if_neg h,if_pos (oT h2)];rfl
  ·replace h2:=oF h2;refine aM (fun m u M=>(fun i:Int=>∃last:Int,M=au b [.int .i64 n,.slice s.a s.n s.c]::R∧0≤i∧i≤xs.length∧m=xs.length-i.toNat∧Sp.kA n xs=Sp.C4 n last (xs.drop i.toNat)∧-1≤last∧((i=0∧last= -1)∨(0<i∧0≤last∧last=xs.getD (i-1).toNat 0))) u.1) xs.length ?_ ?_;·refine⟨-1,rfl,bu,bq,bu,?_,ae,.inl ⟨rfl,rfl⟩⟩;rw[Sp.kA,if_neg h,if_neg h2];rfl
   ·rintro m ⟨(i:Int),⟨⟩⟩ M ⟨last,rfl,h0,h1,rfl,hc,hl0,hlast⟩ X hX;dsimp only at*;refine iL<|ag (fun h3=>?_) (fun h3=>?_)
    ·replace h3:i<(s.n:Int):=oT h3;have hi:i.toNat<xs.length:=by omega
     rw[hE 0 hi]at hc;unfold Sp.C4 at hc;refine aA<|iL<|cC hs h0 ae ?_;have hgo:¬xs.getD i.toNat 0≤last→¬xs.getD i.toNat 0≥n→Tr ρ ρ (au b [.int .i64 n,.slice s.a s.n s.c]::R) (X (i+1,())) (SP RB (fun r M=>r=Sp.kA n xs∧M=[]) R):=fun g1 g2=>by rw[if_neg g1,if_neg g2]at hc;refine hX _ _ _ ae ⟨xs.getD i.toNat 0,rfl,bq,bq,rfl,?_,ae,.inr ⟨by omega,ae,by congr 1;omega⟩⟩;rw[hc,show(i+1).toNat=i.toNat+1 by omega]
     have hbad:(xs.getD i.toNat 0≤last∨xs.getD i.toNat 0≥n)→Tr ρ ρ (au b [.int .i64 n,.slice s.a s.n s.c]::R) (ret (.bool false)) (SP RB (fun r M=>r=Sp.kA n xs∧M=[]) R):=fun g=>by
      have:Sp.kA n xs=false:=by
       rw[hc];by_cases g1:xs.getD i.toNat 0≤last;·rw[if_pos g1]
       ·rw[if_neg g1,if_pos (g.resolve_left g1)]
      rw[this];exact rT
     refine ag (fun h4=>?_) (fun h4=>?_);·replace h4:=oT h4;exact hbad (.inl ae)
     ·replace h4:=oF h4;refine iL<|cC hs h0 ae<|iL<|ag (fun h5=>hbad (.inr (oT h5))) (fun h5=>?_);replace h5:=oF h5;rw[bG (n:=i+1)];refine ag (fun h6=>?_) (fun h6=>?_)
      ·replace h6:i>0:=oT h6;refine iL<|cC hs h0 ae<|iL ?_;rw[bG (n:=i-1)];apply cC hs ae ae;have hle:last=xs.getD (i-1).toNat 0:=by
        rcases hlast with ⟨g,_⟩|⟨_,_,g⟩;·omega
        ·exact g
       rw[←hle];refine ag (fun h7=>hbad (.inl (oT h7))) (fun h7=>?_);exact hgo (oF h7) h5
      ·replace h6:¬i>0:=oF h6;exact hgo (by rcases hlast with ⟨_,g⟩|⟨g,_⟩<;>omega) h5
    ·replace h3:¬i<(s.n:Int):=oF h3;rw[List.drop_eq_nil_of_le ae]at hc;refine ax ?_ ⟨rfl,rfl⟩ ar bE;rw[hc];rfl
theorem KK(p:Nat)(S:aJ)(l:List (aX×av))(hw:aY S (dK l))(n:Int)(s:av)(xs:List Int)(hs:fx ρ s 1 (xs.map i64))(hl:xs.length≤2^30):
  Gl.Spec ρ Zp 121 [pA p,.agg #[.int .i64 n,.slice s.a s.n s.c]] [ct p S l] G2
  fun r M=>∃l':List (aX×av),dK l'=(Sp.eE (dK l) (n,xs)).2.2∧((∀x∈l,x.2.n=x.1.2.length)→∀x∈l',x.2.n=x.1.2.length)∧r=((Sp.eE (dK l) (n,xs)).1,(Sp.eE (dK l) (n,xs)).2.1,())∧M=[ct p S l']:=by
 have hll:(dK l).length=l.length:=by simp
 refine So (F.aa.bN.Add.calls _ (n,s,())) fun R=>aq fun b1=>aq fun b2=>?_;rw[gk];refine iG ?_;refine cE (yn n s _ hs hl)<|ag (fun h=>?_) (fun h=>?_)
 ·have h:¬Sp.kA n xs=true:=by simpa using h
  have e:Sp.eE (dK l) (n,xs)=(0,1,dK l):=by unfold Sp.eE;rw[if_pos h]
  rw[e];refine iT ?_;exact aN (x:=(_,_,())) [] rfl tk rfl<|rT ⟨l,rfl,id,rfl,rfl⟩
 ·have h:Sp.kA n xs=true:=by simpa using h
  refine af (ct.op tk fun ps q hq=>?_);refine iL<|ag (fun h2=>?_) (fun h2=>?_)
  ·have h2:=oT h2;have e:Sp.eE (dK l) (n,xs)=(0,3,dK l):=by unfold Sp.eE;rw[if_neg (fun g=>g h),if_pos ae]
   rw[e];refine tC (ct.cl hq) ?_;refine iT ?_;exact aN (x:=(_,_,())) [] rfl tk rfl<|rT ⟨l,rfl,id,rfl,rfl⟩
  ·have h2:=oF h2;have e:Sp.eE (dK l) (n,xs)=(((dK l).length:Int)+1,0,dK l++[(n,xs)]):=by unfold Sp.eE;rw[if_neg (fun g=>g h),if_neg ae]
   rw[e];refine aA (aK [au p [.pointer _,bY q],au _ [.int _ n,.slice _ _ s.c]] ar (af ?_));refine jL<|jL<|jL<|aq fun b3=>cK<|Tr.imp (A':=aw ⟨oA b3,0,0⟩ 1 (([]:List _).map i64)) .here (aw.nI rfl)<|bj (s:=⟨oA b3,0,0⟩) bJ tk (Rd.ro hs) fC fun r hr=>aS ar (aq fun b4=>aS ar ?_);refine eu (x:=⟨oA b4,1,1⟩) ER tk (Rd.cl tk rfl rfl) rfl (by dsimp only;omega) (by dsimp only;omega) fun r2 hr2=>af<|cz (off:=1) bL tk bu rfl (af ?_);refine lS p 1 _<|Tr.imp (A:=star _) (A':=star ((l++([]:List _)).map nJ)) tk bu<|Tr.close (A:=star ((l++[((n,xs),r)]).map nJ)) ar (fun h H=>dR h H) ?_;have e2:l.flatMap iX++[.int .i64 n,.slice r.a r.n r.c]=(l++[((n,xs),r)]).flatMap iX:=by rw[List.flatMap_append];rfl
   rw[e2];refine Tr.close ar (ct.cl (by rw[hr2,hq];simp)) ?_;have hr2n:(r2.n:Int)=(dK l).length+1:=by rw[hr2,hq,hll];dsimp only;omega
   rw[hr2n];refine iT ?_;refine aN (x:=(((dK l).length:Int)+1,_,())) [] rfl tk rfl ?_;exact rE (((dK l).length:Int)+1,(0:Int),()) ⟨l++[((n,xs),r)],by simp,fun hx x hm=>by
    rcases List.mem_append.mp hm with hm|hm;·exact hx x hm
    ·simp at hm;subst hm;simpa using hr,rfl,rfl⟩
theorem Ob.q7{S:aJ}{cs:List aX}(hw:aY S cs){a:Int}{h:Hd}(hh:Ob.head S a=some h):Sp.fk h=true:=by obtain⟨_,_,_,_,_,g,_⟩:=Ob.bU hw hh;exact g
def Kn(S:aJ)(cs:List aX):Prop:=∀a h,Ob.head S a=some h→h.k=1→∃c,Sp.iI cs h.c=some c
def BQ(p:Nat)(l:List (aX×av))(A:List aD)(r:av)(xs:List Int):Prop:=∀(ρ:FR) (S:aJ),Rd ρ (ct p S l::A) r 1 (xs.map i64)
theorem mY(p:Nat)(l:List (aX×av))(r:av)(xs:List Int)(hl:r.n=xs.length):BQ p l [aw r 1 (xs.map i64)] r xs:=fun ρ S=>Rd.sl (.skip .here) (by simp[hl])
theorem Bv(p:Nat)(l:List (aX×av))(i:Nat)(x:aX×av)(hx:l[i]? =some x)(hl:x.2.n=x.1.2.length):BQ p l [] x.2 x.1.2:=fun ρ S=>by
 refine⟨by simp[hl],fun w hw=>?_⟩;obtain⟨⟨h,⟨h1,h2,hd,rfl,⟨⟨ps,s⟩,_,hr⟩,he⟩,hh⟩,h3⟩:=hw;have hw':Sat ρ [au p [pA ps,bY s],ay ps S,aw s 2 _,star _] w:=⟨⟨h1,hr,fun b o hb=>hh b o (by simp[hb])⟩,h3⟩;have hw2:=hw'.drop.drop.drop;have hw3:Sat ρ (l.map nJ) w:=by have:=hw2.uT;simpa using this
 obtain⟨l1,l2,e⟩:∃l1 l2,l=l1++x::l2:=by
  have hi:=cf hx;refine⟨l.take i,l.drop (i+1),?_⟩;have:l[i]=x:=by grind
  rw[←this,←List.drop_eq_getElem_cons hi,List.take_append_drop]
 have hw4:Sat ρ (aw x.2 1 (x.1.2.map i64)::(l1.map nJ++l2.map nJ)) w:=by apply hw3.perm;rw[e,List.map_append,List.map_cons];exact List.perm_middle
 exact(Rd.sl .here (by simp[hl])).2 w hw4
theorem CD(p:Nat)(S:aJ)(l:List (aX×av))(hw:aY S (dK l))(hk:Kn S (dK l))(hln:∀x∈l,x.2.n=x.1.2.length)(a:Int):Gl.Spec ρ Zp 124 [pA p,i64 a] [ct p S l] RS
  fun r M=>∃A,M=ct p S l::A∧BQ p l A r (Ob.refs S (dK l) a):=by
 refine So (F.aa.bN.Refs.calls _ a) fun R=>?_;unfold F.aa.bN.Refs;try simp only[c8,c9]
 apply cE (ib p S l hw a);try simp only[c8,c9]
 refine aq fun b2=>?_;rw[vz];cases hh:Ob.head S a with
 |none=>
  have e:Ob.refs S (dK l) a=[]:=by unfold Ob.refs;rw[hh]
  rw[e];simp only[Rf.hd];refine iT<|aT bL tk rfl ?_;exact bT<|Tr.cg 1<|ax rfl ⟨_,rfl,mY p l _ [] rfl⟩ ar bE
 |some hd=>
  have g3:=Ob.q7 hw hh;have hkn:=hk a hd hh;have hb:=Sp.cb g3;obtain⟨k,c,ln,f⟩:=hd;dsimp only at*;have e0:Ob.refs S (dK l) a=if k=1 then(match Sp.iI (dK l) c with |some c=>c.2|none=>[])else if k=2 then Sp.upto ln.toNat else if k=4 then[2]else[]:=by unfold Ob.refs;rw[hh];rfl
  simp only[Rf.hd];refine iT<|aT bL tk rfl ?_;refine bF<|aT bL tk rfl<|ag (fun h1=>?_) (fun h1=>?_)
  ·have h1:k=1:=eq_of_beq h1;obtain⟨cl,hc⟩:=hkn h1;rw[if_pos h1,hc]at e0;dsimp only at e0;rw[e0];obtain⟨c1,c2,c3⟩:=vV hc;have hlt:(c-1).toNat<l.length:=by have:=cf c3;simpa using this
   have hx:l[(c-1).toNat]? =some l[(c-1).toNat]:=List.getElem?_eq_getElem hlt;have hmem:=List.getElem_mem hlt;generalize l[(c-1).toNat]=x at hx hmem;have hxc:x.1=cl:=by rw[List.getElem?_map,hx]at c3;injection c3
   refine aA (af (ct.op tk fun ps s hs=>?_));refine lS p 1 s<|aT (k:=kI) (b:=b2) (off:=1) (x:=c) (by rw[aO,aO]) tk rfl ?_;rw[wrap64 (n:=c-1) (by omega) (by omega)];refine rv (s:=s) tk (by omega) hx fun a0 ha hcell=>cw (k:= .slice) (s:=s) (j:=(c-1).toNat*2+1) (x:=x.2) ha tk (by rintro b o rfl;simp[aO,Nat.add_assoc]) (hcell 1 _ (by decide) rfl)<|tC (ct.cl (p:=p) (ps:=ps) (S:=S) (l:=l) (s:=s) hs) ?_;exact ax (M:=[ct p S l]) (x:=x.2) rfl ⟨[],rfl,by rw[←hxc];exact Bv p l _ x hx (hln x hmem)⟩ ar bE
  ·have h1:k≠1:=by simpa using h1
   rw[if_neg h1]at e0;refine ag (fun h2=>?_) (fun h2=>?_)
   ·rw[if_pos (eq_of_beq h2)]at e0;rw[e0];refine Tr.cg 1<|aM (fun m u M=>(fun(t:av) (j:Int)=>M=aw t 1 ((Sp.upto j.toNat).map i64)::au b2 [i64 k,i64 c,i64 ln,.bool f,.bool true]::ct p S l::R∧0≤j∧j≤ln∧m=ln.toNat-j.toNat) u.1 u.2.1) ln.toNat ?_ ?_;·exact⟨rfl,bu,bq,bu⟩
    ·rintro m ⟨(t:av),(j:Int),⟨⟩⟩ M ⟨rfl,j0,j1,rfl⟩ X hX;dsimp only at*;refine aT bL tk rfl<|ag (fun h3=>?_) (fun h3=>?_)
     ·replace h3:j<ln:=oT h3;refine dm (s:=t) (xs:=Sp.upto j.toNat) bJ tk (by simp[Sp.upto];omega) fun r hr=>?_;rw[bG (n:=j+1)];refine hX (ln.toNat-(j+1).toNat) _ _ ae ⟨?_,bq,bq,rfl⟩;dsimp only;have e:Sp.upto j.toNat++[j]=Sp.upto (j+1).toNat:=by rw[show(j+1).toNat=j.toNat+1 by omega,Sp.upto,Sp.upto,List.range_succ,List.map_append];simp;omega
      rw[e]
     ·replace h3:¬j<ln:=oF h3;rw[show j.toNat=ln.toNat by omega];exact Tr.fu (s:=t) (xs:=Sp.upto ln.toNat) tk fun htn=>ax (M:=[ct p S l,aw t 1 ((Sp.upto ln.toNat).map i64)]) (x:=t) rfl ⟨_,rfl,mY p l t _ htn⟩ ar bE
   ·rw[if_neg (by simpa using h2)]at e0;refine ag (fun h3=>?_) (fun h3=>?_);·rw[if_pos (eq_of_beq h3)]at e0;rw[e0];exact aq fun b4=>Tr.imp (A':=aw ⟨oA b4,1,1⟩ 1 (([2]:List Int).map i64)) .here (aw.nI rfl)<|ax (M:=[ct p S l,aw ⟨oA b4,1,1⟩ 1 (([2]:List Int).map i64)]) (x:=(⟨oA b4,1,1⟩:av)) rfl ⟨_,rfl,mY p l _ [2] rfl⟩ ar bE
    ·rw[if_neg (by simpa using h3)]at e0;rw[e0];exact Tr.cg 1<|ax (M:=[ct p S l,aw kW 1 (([]:List Int).map i64)]) (x:=kW) rfl ⟨_,rfl,mY p l kW [] rfl⟩ ar bE
theorem FV(p:Nat)(S:aJ)(l:List (aX×av))(hw:aY S (dK l))(a:Int):Gl.Spec ρ Zp 130 [pA p,i64 a] [ct p S l] R1
  fun r M=>r=(Ob.final S a).1∧M=[ct p (Ob.final S a).2 l]:=by
 refine So (F.aa.bN.qV.calls _ a) fun R=>cE (ib p S l hw a)<|aq fun b2=>?_;rw[vz];cases hh:Ob.head S a with
 |none=>
  have e:Ob.final S a=(2,S):=by unfold Ob.final;rw[hh]
  rw[e];refine iT<|aT bL tk rfl ?_;exact bT<|rT
 |some hd=>
  obtain⟨n,w,rfl,_,_,g3,g4,g5⟩:=Ob.bU hw hh;have hb:=Sp.cb g3;obtain⟨k,c,ln,f⟩:=hd;have e0:Ob.final S n=if k=4 then(5,S)else if f=true then(4,S)else(0,⟨S.ws.set n (Sp.fV ⟨k,c,ln,true⟩),S.pg⟩):=by unfold Ob.final;rw[hh,Int.toNat_natCast]
  refine iT<|aT bL tk rfl<|ak rfl<|aT (k:=kI) (b:=b2) (off:=0) (x:=k) (by rw[aO,aO]) tk rfl<|ag (fun h1=>?_) (fun h1=>?_);·rw[e0,if_pos (eq_of_beq h1)];exact rE (5:Int)
  ·have h1:¬k=4:=by simpa using h1
   rw[if_neg h1]at e0;refine aT (k:= .bool) (b:=b2) (off:=3) (x:=f) (by rw[aO,aO]) tk rfl<|ag (fun h2=>?_) (fun h2=>?_);·rw[e0,if_pos h2];exact rE (4:Int)
   ·rw[if_neg (by simp[h2])]at e0;rw[e0];refine cz (b:=b2) (off:=3) (by rw[aO,aO]) tk (by simp[cH]) rfl<|ct.op tk fun ps s hs=>ay.op tk fun sa sk sm sq ql hql=>Tr.take (.skip (.skip (.skip (.skip (.skip (.skip (.skip (.skip (.skip .here)))))))))<|aA (aK [au p [pA ps,bY s],au _ [bY sa,bY sk,bY sm,bY sq],au _ [i64 k,i64 c,i64 ln,.bool true,.bool true]] ar (af ?_));refine hP p 0 _ (af ?_);refine jL<|jG ?_;apply cE (tJ ⟨k,c,ln,true⟩ (Sp.wZ g3 h1));refine cK<|dr tk ae ae<|tC (ay.cl (S:=⟨S.ws.set n _,S.pg⟩) hql) ?_;refine tC (ct.cl hs) ?_;exact rT
theorem Rd.part{s:av}{xs:List Int}(t:Take L (aw s 1 (xs.map i64)) L'){lo hi:Nat}(h1:lo≤hi)(h2:hi≤xs.length):Rd ρ L ⟨if s.c=lo then s.a else s.a.map fun b=>fa b (lo*1),hi-lo,s.c-lo⟩ 1 (((xs.drop lo).take (hi-lo)).map i64):=by
 refine⟨by simp;omega,fun w hw=>?_⟩;by_cases he:hi=lo;·left;dsimp only;omega
 rcases(hw.perm t.perm).sl with ⟨g1,g2,g3,g4,_⟩|⟨b,off,pre,rest,g1,g2,g3,g4,g5,g6⟩;·simp_all
 ·right;rw[List.length_map]at g3;refine⟨b,off+lo,by rw[if_neg ae,g1,Option.map_some,aO,Nat.mul_one],fun i hi'=>?_⟩;obtain⟨ty,hb⟩:=g6.cl;have e1:(((xs.drop lo).take (hi-lo)).map i64)[i]? =some (i64 (xs.getD (lo+i) 0)):=by grind
  rw[e1];apply cell_of hb;grind
theorem yL{S:aJ}{cs:List aX}(hw:aY S cs){n:Nat}{hd:Hd}(hh:Ob.head S n=some hd):(List.range hd.n.toNat).map (fun i:Nat=>(Ob.get S n i).1)=(S.ws.drop (n+1)).take hd.n.toNat:=by obtain⟨m,w,e,_,_,g3,g4,g5⟩:=Ob.bU hw hh;refine fv 0 fC fun i hi=>?_;rw[List.length_map,List.length_range]at hi;rw[List.getD_eq_getElem?_getD,List.getElem?_map,List.getElem?_range hi,Option.map_some,Option.getD_some,Ob.eb hh ae ae];grind
theorem tX(p:Nat)(S:aJ)(l:List (aX×av))(hw:aY S (dK l)):Gl.Spec ρ Zp 75 [pA p] [ct p S l] RS
  fun r M=>M=[pL r (Ob.eR S),ct p S l]∧r.n=(Ob.eR S).length:=by
 have hel:=Sp.df hw.wf;have hmost:=hw.wf.fF;have hlen:=hw.wf.len;refine So (F.aa.bN.iQ.calls _) fun R=>af (ct.op tk fun ps q hq=>?_);refine iL<|ai (qE _ S hw.wf) ar ?_;rintro s M rfl;refine tC (ct.cl hq) ?_;refine Tr.cL tk fun ρ' hle hro=>?_;have hsn:=hro.len;refine Tr.none<|Tr.cg 6 ?_;refine aM (fun m u M=>(fun(t:av) (i:Int)=>∃lo:List (pX×av),M=aw t 6 (lo.flatMap jQ)::star (lo.map yk)::ct p S l::R∧0≤i∧i≤(Sp.each S).length∧m=(Sp.each S).length-i.toNat∧t.n=i.toNat∧
   lo.map (·.1)=((Sp.each S).take i.toNat).map (Ob.jh S)∧∀x∈lo,x.2.n=x.1.ws.length) u.1 u.2.1) (Sp.each S).length ?_ ?_;·exact⟨[],rfl,bu,bu,bu,rfl,bu,bu⟩
 ·rintro m ⟨(t:av),(i:Int),⟨⟩⟩ M ⟨lo,rfl,h0,h1,rfl,htn,hl,hln⟩ X hX;dsimp only at*;refine ag (fun h=>?_) (fun h=>?_)
  ·replace h:i<(s.n:Int):=oT h;have hi:i.toNat<(Sp.each S).length:=by omega
   have hmem:(Sp.each S).getD i.toNat 0∈Sp.each S:=by rw[List.getD_eq_getElem?_getD,List.getElem?_eq_getElem hi];exact List.getElem_mem _
   have htk:=aE 0 hi;have hgx:∀{ρ1:FR} {L:List aD} {Post:Value→List aD→Prop} {f:Int→Tree} M,Tr ρ1 ρ' L _ Post→Tr ρ1 ρ' L (ix s.a s.n i 1 fun a=>rb (Sat ρ' M) (.l kI) a f) Post:=fun M h=>fO hro h0 ae h;apply cC hro h0 ae;generalize(Sp.each S).getD i.toNat 0=a at hmem htk hgx⊢;obtain⟨n,rfl,hn,w,hf,w1,w2,w3⟩:=Sp.jD hw.wf hmem;obtain⟨hd,hm,hwd,hfit⟩:=hw.obj n w hf;have hb:=Sp.cb hm;have hhd:Ob.head S n=some hd:=by unfold Ob.head;rw[hf];dsimp only;rw[if_pos rfl,hwd,Sp.jc hm]
   have hat:Ob.jh S n=⟨n,hd,(S.ws.drop (n+1)).take hd.n.toNat⟩:=by unfold Ob.jh;rw[hhd];dsimp only;rw[yL hw hhd]
   refine cE (ib p S l hw n)<|aq fun b9=>?_;rw[vz,hhd];simp only[Rf.hd];refine iT ?_;refine ct.op tk fun ps q hq=>ay.op tk fun sa sk sm sq ql hql=>Tr.take (.skip (.skip (.skip (.skip (.skip (.skip (.skip (.skip (.skip .here)))))))))<|aA (aK [au p [.pointer _,bY q],au _ [bY sa,bY sk,bY sm,bY sq],au _ [i64 hd.k,i64 hd.c,i64 hd.n,.bool hd.f,.bool true]] ar (hgx _ ?_));refine qh (x:=(hd.k,hd.c,hd.n,hd.f,())) [.bool true] bL tk rfl (af ?_);refine hP p 0 _ (af ?_);refine hS _ 0 _ (hgx _ (hgx _ ?_));apply bo bL tk rfl;obtain⟨ln,hln2⟩:∃ln:Nat,hd.n=ln:=⟨hd.n.toNat,ae⟩;rw[hln2]at hat hfit hb⊢;rw[wrap64 (n:=(n:Int)+1) ae ae,wrap64 (n:=(n:Int)+1+(ln:Int)) ae ae];refine Tr.fA tk fun hsa hsc=>?_;rw[List.length_map,Nat.mul_one]at hsa;apply ei ae ae ae;rw[show((n:Int)+1).toNat=n+1 by omega,show((n:Int)+1+(ln:Int)).toNat=n+1+ln by omega];refine aq fun b24=>aS ar<|Tr.imp (A':=aw ⟨oA b24,0,0⟩ 1 (([]:List _).map i64)) .here (aw.nI rfl) ?_;have hrd:=fun(L L':List aD) (t:Take L (aw sa 1 (S.ws.map i64)) L')=>Rd.part (ρ:=ρ') t (lo:=n+1) (hi:=n+1+ln) ae ae;rw[show n+1+ln-(n+1)=ln by omega]at hrd⊢;refine bj (s:=⟨oA b24,0,0⟩) bJ tk (hrd _ _ tk) fC fun r hr=>aS ar (aq fun b26=>?_);refine eu (x:=⟨oA b26,1,1⟩) (ys:=[i64 n,i64 hd.k,i64 hd.c,i64 ln,.bool hd.f,.slice _ _ r.c]) xp tk (Rd.cl tk rfl rfl) rfl (by dsimp only;omega) (by dsimp only;omega) fun r2 hr2=>tC (ay.cl hql) ?_;refine tC (ct.cl hq) ?_;refine Tr.imp (A:=star _) (A':=star ((lo++([]:List _)).map yk)) tk bu<|Tr.close (A:=star ((lo++[(Ob.jh S n,r)]).map yk)) (by rw[hat];exact ar) (fun h H=>dR h H) ?_;have e2:lo.flatMap jQ++[i64 n,i64 hd.k,i64 hd.c,i64 ln,.bool hd.f,.slice r.a r.n r.c]=(lo++[(Ob.jh S n,r)]).flatMap jQ:=by rw[List.flatMap_append,hat];simp[jQ,hln2]
   rw[e2,bG (n:=i+1)];refine tD (au _ _) ?_;refine tD (au _ _) ?_;refine Tr.take tk (Tr.take (A:=aw _ 6 _) tk ?_);refine hX ((Sp.each S).length-(i+1).toNat) _ _ ae ⟨lo++[(Ob.jh S n,r)],rfl,bq,bq,rfl,by dsimp only;rw[hr2,htn];show _+1=_;omega,?_,fun x hx=>?_⟩;·rw[show(i+1).toNat=i.toNat+1 by omega,htk,List.map_append,List.map_append,hl];rfl
   ·rcases List.mem_append.mp hx with hx|hx;·exact hln x hx
    ·simp at hx;subst hx;rw[hat];rw[hr];simp
  ·replace h:¬i<(s.n:Int):=oF h;rw[List.take_of_length_le ae]at hl;have htl:t.n=(Ob.eR S).length:=by rw[zS];omega
   exact Tr.close ar (pL.cl htl hl hln)<|rT ⟨rfl,htl⟩
theorem DF(s1 s2:av)(os:List pX)(r1:tW ρ s1 os)(r2:tW ρ s2 os)(hb:∀o∈os,o.ws.length<2^40)(hl:os.length<2^40):Gl.Spec ρ Zp 65 [bY s1,bY s2] [] RB
  fun r M=>r=true∧M=[]:=by
 refine So (F.aa.oq.calls _ _) fun R=>?_;obtain⟨n1,l1,e1,g1,q1⟩:=r1;obtain⟨n2,l2,e2,g2,q2⟩:=r2;refine ak (by rw[n1,n2];simp)<|aM (fun m u M=>(fun(i:Int)=>M=R∧0≤i∧i≤os.length∧m=os.length-i.toNat) u.1) os.length ?_ ?_;·exact⟨rfl,bu,bq,bu⟩
 ·rintro m ⟨(i:Int),⟨⟩⟩ M ⟨rfl,i0,i1,rfl⟩ X hX;refine ag (fun h=>?_) (fun h=>?_)
  ·replace h:i<(s1.n:Int):=oT h;have hi:i.toNat<os.length:=by omega
   have hl1:l1.length=os.length:=by rw[←e1];simp
   have hl2:l2.length=os.length:=by rw[←e2];simp
   have x1:l1[i.toNat]? =some (os[i.toNat],l1[i.toNat].2):=by rw[List.getElem?_eq_getElem (by omega)];congr 1;refine Prod.ext ?_ rfl;have:=List.getElem_map (·.1) (l:=l1) (i:=i.toNat) (h:=by simp;omega);rw[←this];simp only[e1]
   have x2:l2[i.toNat]? =some (os[i.toNat],l2[i.toNat].2):=by rw[List.getElem?_eq_getElem (by omega)];congr 1;refine Prod.ext ?_ rfl;have:=List.getElem_map (·.1) (l:=l2) (i:=i.toNat) (h:=by simp;omega);rw[←this];simp only[e2]
   have hbo:=hb _ (List.getElem_mem hi);generalize os[i.toNat]=o at*;generalize l1[i.toNat].2=c1 at*;generalize l2[i.toNat].2=c2 at*;have k1:=fun e (he:e<6)=>eJ (g:=jQ) (fun _=>rfl) x1 he;have k2:=fun e (he:e<6)=>eJ (g:=jQ) (fun _=>rfl) x2 he;have p1:=q1 _ (List.mem_of_getElem? x1);have p2:=q2 _ (List.mem_of_getElem? x2);have hg:∀(lo:List (pX×av)) (c:av),(∀e,e<6→(lo.flatMap jQ)[i.toNat*6+e]? =(jQ (o,c))[e]?)→∀e v,(fq HL o.h.t)[e]? =some v→(lo.flatMap jQ)[i.toNat*6+1+0+e]? =some v:=fun lo c hc e v he=>by
    have hlt:e<4:=cf he;rw[show i.toNat*6+1+0+e=i.toNat*6+(1+e) by omega,hc (1+e) ae];have:e=0∨e=1∨e=2∨e=3:=by omega
    rcases this with e'|e'|e'|e'<;>subst e'<;>exact he
   refine aA (bz g1 i0 ae fun a0 ha=>?_);refine cu (j:=i.toNat*6+0) (x:=o.a) ha g1 fX (by rw[k1 0 bd];rfl)<|bz g2 i0 ae fun a1 ha1=>cu (j:=i.toNat*6+0) (x:=o.a) ha1 g2 fX (by rw[k2 0 bd];rfl)<|bF<|bz g1 i0 ae fun a0 ha=>kU ha g1 fX (hg _ _ k1)<|bz g2 i0 ae fun a0 ha=>kU ha g2 fX (hg _ _ k2)<|bF<|bz g1 i0 ae fun a0 ha=>cu (j:=i.toNat*6+5) (x:=c1) ha g1 fX (by rw[k1 5 bd];rfl)<|bz g2 i0 ae fun a0 ha=>cu (j:=i.toNat*6+5) (x:=c2) ha g2 fX (by rw[k2 5 bd];rfl)<|cE (mD _ _ o.ws o.ws p1.1 p2.1 ae)<|bF ?_;rw[bG (n:=i+1)];exact hX _ _ _ ae ⟨rfl,bq,bq,rfl⟩
  ·exact rT
theorem H6(p:Nat)(S:aJ)(l:List (aX×av))(hw:aY S (dK l))(s:av)(live:List Int)(ro:fx ρ s 1 (live.map i64))(hl:live.length<2^40):Gl.Spec ρ Zp 192 [pA p,bY s] [ct p S l] RS
  fun r M=>M=[aw r 1 ((Sw.dead S live).map i64),ct p S l]:=by
 have hel:=Sp.df hw.wf;refine So (F.aa.sJ.calls _ s) fun R=>af (ct.op tk fun ps q hq=>?_);refine iL<|ai (qE _ S hw.wf) ar ?_;rintro e M rfl;refine tC (ct.cl hq) ?_;refine Tr.cL tk fun ρ' hle hro=>?_;have hen:=hro.len;refine Tr.cg 1<|aM (fun m u M=>(fun t (i:Int)=>M=aw t 1 ((((Sp.each S).take i.toNat).filter fun a=>decide (a∉live)).map i64)::ct p S l::R∧0≤i∧i≤(Sp.each S).length∧m=(Sp.each S).length-i.toNat) u.1 u.2.1) (Sp.each S).length ?_ ?_;·exact⟨rfl,bu,bq,bu⟩
 ·rintro m ⟨(t:av),(i:Int),⟨⟩⟩ M ⟨rfl,i0,i1,rfl⟩ X hX;dsimp only at*;refine ag (fun h=>?_) (fun h=>?_)
  ·replace h:i<(e.n:Int):=oT h;have hi:i.toNat<(Sp.each S).length:=by omega
   have ht:(Sp.each S).take (i+1).toNat=(Sp.each S).take i.toNat++[(Sp.each S).getD i.toNat 0]:=by rw[show(i+1).toNat=i.toNat+1 by omega,aE 0 hi]
   refine cC hro i0 ae<|cE (Bm s _ (ro.le hle) ae _) ?_;try simp only[c8,c9]
   rw[bG (n:=i+1)];have hfl:=List.length_filter_le (fun a=>decide (a∉live)) ((Sp.each S).take i.toNat);have htl:=List.length_take_le i.toNat (Sp.each S);refine ag (fun h2=>?_) (fun h2=>?_)
   ·have h2:(Sp.each S).getD i.toNat 0∉live:=by simpa using h2
    refine cC hro i0 ae<|dm bJ tk ae fun r hr=>hX ((Sp.each S).length-(i+1).toNat) _ _ ae ⟨?_,bq,bq,rfl⟩;rw[ht,List.filter_append,List.filter_cons_of_pos (p:=fun a=>decide (a∉live)) (decide_eq_true h2),List.filter_nil]
   ·have h2:(Sp.each S).getD i.toNat 0∈live:=by simpa using h2
    refine hX ((Sp.each S).length-(i+1).toNat) _ _ ae ⟨?_,bq,bq,rfl⟩;rw[ht,List.filter_append,List.filter_cons_of_neg (p:=fun a=>decide (a∉live)) (by rw[decide_eq_true_iff];exact fun g=>g h2),List.filter_nil,List.append_nil]
  ·replace h:¬i<(e.n:Int):=oF h;rw[List.take_of_length_le ae];exact rT rfl
theorem Fj(p:Nat)(S:aJ)(l:List (aX×av))(hw:aY S (dK l))(s:av)(live:List Int)(ro:fx ρ s 1 (live.map i64))(hl:live.length<2^40):Gl.Spec ρ Zp 134 [pA p,bY s] [ct p S l] R1
  fun r M=>r=((Sw.dead S live).length:Nat)∧M=[ct p (Sw.fo S live) l]:=by
 have hel:=Sp.df hw.wf;refine So (F.aa.nH.calls _ s) fun R=>ai (H6 p S l hw s _ ro hl) ar ?_;rintro e M rfl;refine Tr.cL tk fun ρ' hle hro=>?_;have hdl:(Sw.dead S live).length≤(Sp.each S).length:=List.length_filter_le _ _;obtain⟨hd1,hd2⟩:=Sw.xV hw.wf live;unfold Sw.fo;generalize Sw.dead S live=d at*;have hen:=hro.len;refine aM (fun m u M=>(fun(i:Int)=>M=ct p (Sw.sv S (d.take i.toNat)) l::R∧0≤i∧i≤d.length∧m=d.length-i.toNat) u.1) d.length ?_ ?_;·exact⟨rfl,bu,bq,bu⟩
 ·rintro m ⟨(n:Int),⟨⟩⟩ M ⟨rfl,i0,i1,rfl⟩ X hX;refine ag (fun h=>?_) (fun h=>?_)
  ·replace h:n<(e.n:Int):=oT h;have hi:n.toNat<d.length:=by omega
   have hF:=Sw.p9 hw hd1 hd2 n.toNat ae;have ht:d.take (n+1).toNat=d.take n.toNat++[d.getD n.toNat 0]:=by rw[show(n+1).toNat=n.toNat+1 by omega,aE 0 hi]
   refine aA (af (ct.op tk fun ps q hq=>?_));refine iL<|cC hro i0 ae<|cE (IY _ _ hF.hw.wf _) ?_;refine tC (ct.cl hq) ?_;rw[bG (n:=n+1)];refine hX _ _ _ ae ⟨?_,bq,bq,rfl⟩;rw[ht,Sw.pP]
  ·replace h:¬n<(e.n:Int):=oF h;rw[List.take_of_length_le ae];refine ax (x:=(d.length:Int)) ?_ ⟨rfl,rfl⟩ ar bE;rw[hen];rfl
end Go.Proofs.YtjginndmmlkjiaaGreat
