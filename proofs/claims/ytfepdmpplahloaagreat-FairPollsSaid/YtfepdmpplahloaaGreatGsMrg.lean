/- Merging lists of numbers. -/
import Derived.Test.YtfepdmpplahloaaGreatGsFin
set_option linter.unusedSimpArgs false
set_option linter.unusedVariables false
namespace Go.Gl
open Go
variable{ρ0 ρ:FR}{L L':List aA}{Post:Value→List aA→Prop}
def yS(P:Program)(ts:Array TypeId)(kz:IntKind)(nz:Int):Bool:=
 match ts.toList with
 |[t,x]=>(match P.underlying t with
  |some (.slice e)=>(match P.info? e with |some i=>i.size==1&&i.bytes==8&&(match i.zero with |some (.int k n)=>k==kz&&n==nz|_=>false)|none=>false)
  |_=>false)&&(match P.underlying x with |some (.int _)=>true|_=>false)
 |_=>false
theorem dS{α:Type}(l:List α)(i j:Nat)(x d:α):(l.set i x).getD j d=if i=j∧i<l.length then x else l.getD j d:=by
 simp only[List.getD_eq_getElem?_getD,List.getElem?_set]
 by_cases h:i=j
 ·subst h
  by_cases hl:i<l.length
  ·simp[hl]
  ·simp[hl]
 ·simp[h]
theorem Cj{P:Program}{ts:Array TypeId}{ty:TypeId}{kz:IntKind}{nz:Int}{n:Nat}{k:RT (.one (.l .slice))→Tree}(hok:yS P ts kz nz=true)(h0:0<n)(hb:n<2^40)
  (h:∀r:ay,r.n=n→Tr ρ0 ρ (aE r 1 (List.replicate n (.int kz nz))::L) (k r) Post):
  Tr ρ0 ρ L (c9 P (Builtin.append_ ts ty #[.slice none 0 0,.int .i64 n]) (.one (.l .slice)) k) Post:=by
 refine gQ (fun r M=>∃r':ay,r=r'∧r'.n=n∧M=aE r' 1 (List.replicate n (.int kz nz))::L) (fun w hw=> ?_) ?_
 rotate_left
 ·rintro r M ⟨r',rfl,hr,rfl⟩;exact h r hr
 ·unfold yS at hok
  split at hok
  ·rename_i t1 t2 hts
   rw[Bool.and_eq_true]at hok
   obtain⟨hok1,hok2⟩:=hok
   split at hok1
   ·rename_i e he
    split at hok1
    ·rename_i inf hinf
     simp only[Bool.and_eq_true,beq_iff_eq]at hok1
     obtain⟨⟨hsz,hby⟩,hz⟩:=hok1
     split at hz
     ·rename_i k1 n1 hzz
      simp only[Bool.and_eq_true,beq_iff_eq]at hz
      obtain⟨e1,e2⟩:=hz
      rw[e1,e2]at hzz
      split at hok2
      ·rename_i k3 he2
       have hsize:bd P e=some 1:=by simp[bd,hinf,hsz]
       have hzero:(P.info? e).bind (·.zero)=some (.int kz nz):=by simp[hinf,hzz]
       have ht0:ts[0]? =some t1:=by have:=congrArg (fun l=>l[0]?) hts;simpa using this
       have ht1:ts[1]? =some t2:=by have:=congrArg (fun l=>l[1]?) hts;simpa using this
       have a0:(#[.slice none 0 0,.int .i64 (n:Int)]:Array Value)[0]? =some (.slice none 0 0):=rfl
       have a1:(#[.slice none 0 0,.int .i64 (n:Int)]:Array Value)[1]? =some (.int .i64 (n:Int)):=rfl
       have hti:∀w',(typeInfo e).run P w'= .ok inf w':=fun w'=>by simp[typeInfo,hinf]
       have hwr:IntKind.i64.wrap (n:Int)=n:=wrap64 (by omega) (by omega)
       have c0:¬((n:Int)<0):=by omega
       have c1:¬((n:Int)*inf.bytes>2^48):=by rw[hby];omega
       have c2:¬(0+n≤0):=by omega
       have c3:¬((↑(0+n):Int)>IntKind.i64.max∧(True∨inf.bytes=0)):=by
        rintro⟨hgt,_⟩
        have:IntKind.i64.max=9223372036854775807:=by decide
        omega
       have c4:¬(Builtin.nextslicecap (0+n) 0*inf.bytes>2^48):=by
        rw[hby]
        have h3:=nextslicecap_le (n:=0+n) (c:=0) (by omega)
        omega
       have c5:¬(n*1=0):=by omega
       let N:=(Question.appendCap (0+n) 0 e).cut (w.tape w.drawn (Question.appendCap (0+n) 0 e))
       have hN:0+n≤N:=by simp only[N,Question.cut];omega
       have hch:(choose (Question.appendCap (0+n) 0 e)).run P w= .ok N {w with drawn:=w.drawn+1}:=rfl
       have hw2:Sat ρ L {w with drawn:=w.drawn+1}:=hw.drawn
       let W:World:={w with drawn:=w.drawn+1}
       let cs:Array Value:= #[]++Builtin.zeroCells #[.int kz nz] n++Builtin.zeroCells #[.int kz nz] (N-(0+n))
       have hzc:(Value.int kz nz).cells= #[.int kz nz]:=rfl
       refine⟨⟨some ⟨W.heap.size,0,none⟩,0+n,N⟩,W.alloc (.cells cs e),_,?_,⟨_,rfl,by dsimp only;omega,rfl⟩,?_⟩
       ·unfold Builtin.append_
        simp only[ht0,ht1,a0,a1,Sem.run_bind,run_underlying he,run_sizeOf hsize,run_underlying he2,Result.andThen_ok,Sem.run_pure,if_true,asInt,asIntOf,hwr,if_neg c0,if_neg c1,if_neg c2,if_neg c3,if_neg c4,if_neg c5,hti,Int.toNat_natCast,Bool.not_true,Bool.false_eq_true,if_false,Sem.run_ite,hch,run_askRoom,dX hzero,hzc,Builtin.firstCells,newRow,run_newObj]
        rfl
       ·have hnew:=Sat.ta (t:=e) (cs:=cs.toList) hw2
        rw[Array.toArray_toList]at hnew
        refine Sat.imp (fun h hh=> .inr ⟨_,0,[],(Builtin.zeroCells #[.int kz nz] (N-(0+n))).toList,rfl,rfl,?_,?_,hN,?_⟩) hnew
        ·simp
        ·simp[k9]
        ·have:cs.toList=[]++(List.replicate n (.int kz nz)++(Builtin.zeroCells #[.int kz nz] (N-(0+n))).toList):=by
          simp only[cs,Array.toList_append,p7,List.nil_append]
         rw[←this];exact hh
      ·cases hok2
     ·cases hz
    ·cases hok1
   ·cases hok1
  ·cases hok
end Go.Gl
namespace Go.Proofs.YtfepdmpplahloaaGreat
open Go Go.Gl
variable{ρ0 ρ:FR}{L L':List aA}{Post:Value→List aA→Prop}{T:Tree}
theorem Cv:yS Tryz.prog #[46,3] .i64 0=true:=by kernel_rfl
theorem B0(n:Nat)(hn:n<2^40):Gl.Spec ρ Tryz.prog 209 [.slice none 0 0,i64 n] [] RS fun r M=>r.n=0∧M=[aE r 1 []]:=by
 refine Gl.Spec.of (fun Q w h=>F.av.Grow.calls ⟨none,0,0⟩ n h) fun R=> ?_
 unfold F.av.Grow
 refine ak (by rw[decide_eq_false_iff_not];omega) ?_
 dsimp only
 rw[show IntKind.wrap .i64 (((0:Nat):Int)-((0:Nat):Int))=0 from rfl,wrap64 (by omega) (by omega),Int.sub_zero]
 refine aj (fun h=> ?_) (fun h=> ?_)
 ·have h':(n:Int)>0:=of_decide_eq_true h
  refine dR (by omega) (by omega) (by omega) ?_
  refine Cj (kz:= .i64) (nz:=0) (n:=n) Cv (by omega) hn fun r hr=> ?_
  refine Tr.fD tk fun hlen hc=> ?_
  refine dR (by omega) (by omega) (by omega) ?_
  dsimp only
  rw[mV]
  refine Tr.imp (A':=aE ⟨r.a,0,r.c⟩ 1 []) tk (fun hp H=>aE.take (l:=0) (by omega) hp H) ?_
  exact aa (x:=(⟨r.a,0,r.c⟩:ay)) rfl ⟨rfl,rfl⟩ ag aB
 ·refine Tr.cq 1 ?_
  exact aa (x:=(⟨none,0,0⟩:ay)) rfl ⟨rfl,rfl⟩ ag aB
abbrev ru:=ay×List Int
def jF(x:ru):Value:= .slice x.1.a x.1.n x.1.c
theorem mA{l:List ru}{j:Nat}(h:j<l.length):(l.map jF)[j]? =some (LK.val .slice (l.getD j (⟨none,0,0⟩,[])).1):=by
 rw[List.getElem?_map,List.getD_eq_getElem?_getD,List.getElem?_eq_getElem h];rfl
theorem mq{l:List ru}{j:Nat}(h:j<l.length):(l.take (j+1)).flatMap (·.2)=(l.take j).flatMap (·.2)++(l.getD j (⟨none,0,0⟩,[])).2:=by
 rw[List.take_add_one,List.getElem?_eq_getElem h,List.flatMap_append,List.getD_eq_getElem?_getD,List.getElem?_eq_getElem h]
 simp
theorem An{l:List ru}(j:Nat):((l.take j).flatMap (·.2)).length≤(l.flatMap (·.2)).length:=by
 conv=>rhs;rw[←List.take_append_drop j l,List.flatMap_append,List.length_append]
 omega
theorem xj(z:ay)(l:List ru)(rz:eX ρ z 1 (l.map jF))(rl:∀x∈l,eX ρ x.1 1 (x.2.map i64))(hl:(l.flatMap (·.2)).length<2^39)(hl2:l.length<2^40):
  Gl.Spec ρ Tryz.prog 185 [.slice z.a z.n z.c] [] RS fun r M=>r.n=(l.flatMap (·.2)).length∧M=[aE r 1 ((l.flatMap (·.2)).map i64)]:=by
 refine Gl.Spec.of (fun Q w h=>F.av.Concat.calls z h) fun R=> ?_
 unfold F.av.Concat
 have hz:z.n=l.length:=by have:=rz.1;rw[List.length_map]at this;omega
 refine aP (I:=fun m s M=>∃j:Nat,j≤l.length∧m=l.length-j∧s=(((((l.take j).flatMap (·.2)).length:Nat):Int),(j:Int),())∧M=[]++R) l.length ⟨0,by omega,rfl,rfl,rfl⟩ ?_
 rintro m _ R ⟨j,hj,rfl,rfl,rfl⟩ X hX
 try simp only[aq,al]
 refine aj (fun hc=> ?_) (fun hc=> ?_)
 ·have hj':(j:Int)<(z.n:Nat):=of_decide_eq_true hc
  have hjl:j<l.length:=by omega
  refine bJ rz (by omega) hj' fun a0 ha=> ?_
  refine bZ (j:=j) (x:=(l.getD j (⟨none,0,0⟩,[])).1) ha rz (by rintro b o rfl;rw[af];simp) (mA hjl) ?_
  have hr:=rl (l.getD j (⟨none,0,0⟩,[])) (by rw[List.getD_eq_getElem?_getD,List.getElem?_eq_getElem hjl];exact List.getElem_mem _)
  have hr1:(l.getD j (⟨none,0,0⟩,[])).1.n=(l.getD j (⟨none,0,0⟩,[])).2.length:=by have:=hr.1;rw[List.length_map]at this;omega
  have h1:=congrArg List.length (mq hjl)
  rw[List.length_append]at h1
  have h2:=An (l:=l) (j+1)
  have e:IntKind.wrap .i64 ((((l.take j).flatMap (·.2)).length:Nat)+((l.getD j (⟨none,0,0⟩,[])).1.n:Nat))=(((l.take (j+1)).flatMap (·.2)).length:Nat):=by
   rw[wrap64 (by omega) (by omega)];omega
  rw[e,wrap64 (by omega) (by omega)]
  refine ak (by rw[decide_eq_false_iff_not];omega) ?_
  exact hX (l.length-(j+1)) _ _ (by omega) ⟨j+1,by omega,rfl,rfl,rfl⟩
 ·have hj':¬(j:Int)<(z.n:Nat):=of_decide_eq_false hc
  rw[List.take_of_length_le (by omega)]
  refine ae (B0 _ (by omega)) ag ?_
  rintro r _ ⟨hr,rfl⟩
  try simp only[aq,al]
  clear hX
  refine aP (I:=fun m s M=>∃(j:Nat) (t:ay),j≤l.length∧m=l.length-j∧s=(t,(j:Int),())∧t.n=((l.take j).flatMap (·.2)).length∧M=aE t 1 (((l.take j).flatMap (·.2)).map i64)::R) l.length ⟨0,_,by omega,rfl,rfl,hr,rfl⟩ ?_
  rintro m _ _ ⟨j,t,hj,rfl,rfl,ht,rfl⟩ X hX
  try simp only[aq,al]
  refine aj (fun hc=> ?_) (fun hc=> ?_)
  ·have hj':(j:Int)<(z.n:Nat):=of_decide_eq_true hc
   have hjl:j<l.length:=by omega
   refine bJ rz (by omega) hj' fun a0 ha=> ?_
   refine bZ (j:=j) (x:=(l.getD j (⟨none,0,0⟩,[])).1) ha rz (by rintro b o rfl;rw[af];simp) (mA hjl) ?_
   have hr:=rl (l.getD j (⟨none,0,0⟩,[])) (by rw[List.getD_eq_getElem?_getD,List.getElem?_eq_getElem hjl];exact List.getElem_mem _)
   have h1:=congrArg List.length (mq hjl)
   rw[List.length_append]at h1
   have h2:=An (l:=l) (j+1)
   refine jA ca tk (Rd.ro hr) (by omega) fun v hv=> ?_
   rw[wrap64 (by omega) (by omega),←mq hjl]
   exact hX (l.length-(j+1)) _ _ (by omega) ⟨j+1,v,by omega,rfl,rfl,by rw[hv,mq hjl,List.length_append],rfl⟩
  ·have hj':¬(j:Int)<(z.n:Nat):=of_decide_eq_false hc
   rw[List.take_of_length_le (by omega)]at ht⊢
   exact aa (x:=t) rfl ⟨ht,rfl⟩ ag aB
namespace Cp
def new(xs:List Int)(i:Nat):Prop:=i=0∨xs.getD i 0≠xs.getD (i-1) 0
instance (xs:List Int) (i:Nat):Decidable (new xs i):=by unfold new;infer_instance
def dd(xs:List Int)(j:Nat):List Int:=(List.range j).filterMap fun i=>if new xs i then some (xs.getD i 0)else none
theorem jt(xs:List Int)(j:Nat):dd xs (j+1)=dd xs j++if new xs j then[xs.getD j 0]else[]:=by
 unfold dd
 rw[List.range_succ,List.filterMap_append]
 congr 1
 by_cases h:new xs j
 ·rw[if_pos h,List.filterMap_cons_some (by rw[if_pos h]),List.filterMap_nil]
 ·rw[if_neg h,List.filterMap_cons_none (by rw[if_neg h]),List.filterMap_nil]
theorem y7(xs:List Int):∀j,(dd xs j).length≤j
 |0=>Nat.le_refl _
 |j+1=>by
  have:=y7 xs j
  rw[jt,List.length_append]
  split<;>simp<;>omega
theorem vZ{xs:List Int}{a:Int}:∀{j:Nat},a∈dd xs j↔∃i,i<j∧a=xs.getD i 0
 |0=>by simp[dd]
 |j+1=>by
  rw[jt,List.mem_append,vZ]
  constructor
  ·rintro(⟨i,h1,h2⟩|h)
   ·exact⟨i,by omega,h2⟩
   ·split at h
    ·exact⟨j,by omega,List.mem_singleton.mp h⟩
    ·cases h
  ·rintro⟨i,h1,h2⟩
   rcases Nat.lt_succ_iff_lt_or_eq.mp h1 with h|rfl
   ·exact .inl ⟨i,h,h2⟩
   ·by_cases hn:new xs i
    ·rw[if_pos hn];exact .inr (by rw[h2];simp)
    ·unfold new at hn
     have h3:i≠0:=fun e=>hn (.inl e)
     have h4:xs.getD i 0=xs.getD (i-1) 0:=by
      by_cases g:xs.getD i 0=xs.getD (i-1) 0
      ·exact g
      ·exact absurd (.inr g) hn
     exact .inl ⟨i-1,by omega,by rw[h2,h4]⟩
theorem qW{xs:List Int}(hs:∀i j,i≤j→j<xs.length→xs.getD i 0≤xs.getD j 0):∀{j:Nat},j≤xs.length→(dd xs j).Pairwise (·<·)
 |0,_=>by simp[dd]
 |j+1,hj=>by
  rw[jt,List.pairwise_append]
  refine⟨qW hs (by omega),by split<;>simp,fun a ha b hb=> ?_⟩
  split at hb
  ·rename_i hn
   rw[List.mem_singleton]at hb
   subst hb
   obtain⟨i,h1,rfl⟩:=vZ.mp ha
   rcases hn with h|h
   ·omega
   ·have h2:=hs i (j-1) (by omega) (by omega)
    have h3:=hs (j-1) j (by omega) (by omega)
    omega
  ·cases hb
end Cp
theorem Cp.sO{xs:List Int}:∀{j:Nat},j≤xs.length→(∀i,i<j→Cp.new xs i)→Cp.dd xs j=xs.take j
 |0,_,_=>rfl
 |j+1,hj,h=>by
  rw[Cp.jt,if_pos (h j (by omega)),Cp.sO (by omega) (fun i hi=>h i (by omega)),aJ 0 (by omega)]
theorem lj{ys:List Int}{k:Nat}{x:Int}(h:k<ys.length):(ys.set k x).take (k+1)=ys.take k++[x]:=by
 rw[aJ 0 (by rw[List.length_set];exact h),List.take_set_of_le (Nat.le_refl k),dS,if_pos ⟨rfl,h⟩]
theorem nO{s:ay}{xs:List Int}{j:Nat}{i:Int}{x:ay}{f:Int→Tree}(t:Take L (aE s 1 (xs.map i64)) L')(hx:x=⟨if s.c=j then s.a else s.a.map fun b=>fa b (j*1),s.n-j,s.c-j⟩)(hj:j≤s.n)(h0:0≤i)(h1:i<x.n)
  (h:Tr ρ0 ρ L (f (xs.getD (j+i.toNat) 0)) Post):Tr ρ0 ρ L (ix x.a x.n i 1 fun a=>ld (.l (.int .i64)) a f) Post:=by
 refine Tr.jZ t fun hn=> ?_
 have hr:=Rd.part (ρ:=ρ) t (lo:=j) (hi:=s.n) hj (by omega)
 rw[←hx]at hr
 have hxn:x.n=s.n-j:=by rw[hx]
 rw[List.take_of_length_le (by rw[List.length_drop];omega)]at hr
 have e:(xs.drop j).getD i.toNat 0=xs.getD (j+i.toNat) 0:=by rw[List.getD_eq_getElem?_getD,List.getElem?_drop,List.getD_eq_getElem?_getD]
 refine fun hle w hw=> ?_
 have hlen:=hr.len
 rcases hr.2 w hw with h2|⟨b,off,hs,hc⟩
 ·omega
 ·refine⟨⟨b,off,none⟩,hs,h0,by omega,(xs.drop j).getD i.toNat 0,?_,by rw[e];exact h hle w hw⟩
  have:=hc i.toNat (by rw[List.length_map];omega)
  rw[Nat.mul_one,af,this]
  exact getD_map (by omega)
theorem vE(s:ay)(xs:List Int)(hl:xs.length<2^40):Gl.Spec ρ Tryz.prog 187 [.slice s.a s.n s.c] [aE s 1 (xs.map i64)] RS
  fun r M=>r.n=(Cp.dd xs xs.length).length∧M=[aE r 1 ((Cp.dd xs xs.length).map i64)]:=by
 refine Gl.Spec.of (fun Q w h=>F.av.kW.calls s h) fun R=> ?_
 unfold F.av.kW
 refine Tr.jZ tk fun hn=> ?_
 refine aj (fun h=> ?_) (fun h=> ?_)
 ·have h':((s.n:Nat):Int)<2:=of_decide_eq_true h
  have e:Cp.dd xs xs.length=xs:=by
   have:=Cp.sO (xs:=xs) (j:=xs.length) (Nat.le_refl _) (fun i hi=> .inl (by omega))
   rw[this,List.take_length]
  rw[e]
  exact aa (x:=s) rfl ⟨hn,rfl⟩ ag aB
 have h':¬((s.n:Nat):Int)<2:=of_decide_eq_false h
 refine aP (I:=fun m u M=>∃j:Nat,1≤j∧j≤xs.length∧m=xs.length-j∧u=((j:Int),())∧M=aE s 1 (xs.map i64)::R∧∀i,i<j→Cp.new xs i) (xs.length-1) ⟨1,by omega,by omega,rfl,rfl,rfl,fun i hi=> .inl (by omega)⟩ ?_
 rintro m _ _ ⟨j,hj1,hj,rfl,rfl,rfl,hnew⟩ X hX
 try simp only[aq,al]
 refine aj (fun hc=> ?_) (fun hc=> ?_)
 ·have hj':(j:Int)<(s.n:Nat):=of_decide_eq_true hc
  have hjl:j<xs.length:=by omega
  refine aK (dY tk (by omega) (by omega) ?_)
  rw[wrap64 (by omega) (by omega)]
  refine dY tk (by omega) (by omega) ?_
  rw[Int.toNat_natCast,show((j:Int)-1).toNat=j-1 by omega]
  refine aj (fun he=> ?_) (fun he=> ?_)
  ·have he':xs.getD j 0=xs.getD (j-1) 0:=by simpa using he
   have hnn:¬Cp.new xs j:=by
    rintro(g|g)
    ·omega
    ·exact g he'
   refine Tr.fD (s:=s) (m:=1) (xs:=xs.map i64) tk fun _ hcap=> ?_
   refine dR (by omega) (by omega) (by omega) ?_
   rw[show((s.n:Nat):Int).toNat=s.n by omega,Int.toNat_natCast]
   clear hX
   have hd1:Cp.dd xs (j+1)=xs.take j:=by rw[Cp.jt,if_neg hnn,List.append_nil,Cp.sO hj hnew]
   refine aP (I:=fun m u M=>∃(k q:Nat) (ys:List Int),1≤q∧q≤xs.length-j∧m=xs.length-q∧u=((k:Int),(q:Int),())∧M=aE s 1 (ys.map i64)::R∧ys.length=xs.length∧ys.take k=Cp.dd xs (j+q)∧k+1≤j+q∧∀i,j+q≤i+1→ys.getD i 0=xs.getD i 0) (xs.length-1) ⟨j,1,xs,by omega,by omega,rfl,rfl,rfl,rfl,hd1.symm,by omega,fun _ _=>rfl⟩ ?_
   rintro m _ _ ⟨k,q,ys,hq1,hq2,rfl,rfl,rfl,hyl,hyt,hkq,hyd⟩ X hX
   try simp only[aq,al]
   refine aj (fun hc=> ?_) (fun hc=> ?_)
   ·have hc':(q:Int)<((s.n-j:Nat):Int):=of_decide_eq_true hc
    refine aK (nO (s:=s) (j:=j) tk rfl (by omega) (by omega) (by omega) ?_)
    rw[wrap64 (n:=(q:Int)-1) (by omega) (by omega)]
    refine nO (s:=s) (j:=j) tk rfl (by omega) (by omega) (by dsimp only;omega) ?_
    rw[Int.toNat_natCast,show((q:Int)-1).toNat=q-1 by omega,hyd _ (by omega),hyd _ (by omega)]
    rw[wrap64 (n:=(q:Int)+1) (by omega) (by omega)]
    refine aj (fun hne=> ?_) (fun hne=> ?_)
    ·have hne':xs.getD (j+q) 0≠xs.getD (j+(q-1)) 0:=by simpa using hne
     have hnw:Cp.new xs (j+q):= .inr (by rw[show j+q-1=j+(q-1) by omega];exact hne')
     refine nO (s:=s) (j:=j) tk rfl (by omega) (by omega) (by omega) ?_
     rw[Int.toNat_natCast,hyd _ (by omega)]
     refine tZ tk (by omega) (by omega) ?_
     rw[Int.toNat_natCast,wrap64 (n:=(k:Int)+1) (by omega) (by omega)]
     refine hX (xs.length-(q+1)) _ _ (by omega) ⟨k+1,q+1,ys.set k (xs.getD (j+q) 0),by omega,by omega,rfl,rfl,rfl,by rw[List.length_set];exact hyl,?_,by omega,fun i hi=> ?_⟩
     ·rw[lj (by omega),hyt,←Nat.add_assoc,Cp.jt,if_pos hnw]
     ·rw[dS,if_neg (by omega)];exact hyd i (by omega)
    ·have hne':xs.getD (j+q) 0=xs.getD (j+(q-1)) 0:=by simpa using hne
     have hnw:¬Cp.new xs (j+q):=by
      rintro(g|g)
      ·omega
      ·rw[show j+q-1=j+(q-1) by omega]at g;exact g hne'
     refine hX (xs.length-(q+1)) _ _ (by omega) ⟨k,q+1,ys,by omega,by omega,rfl,rfl,rfl,hyl,?_,by omega,fun i hi=>hyd i (by omega)⟩
     rw[←Nat.add_assoc,Cp.jt,if_neg hnw,List.append_nil];exact hyt
   ·have hc':¬(q:Int)<((s.n-j:Nat):Int):=of_decide_eq_false hc
    have hjq:j+q=xs.length:=by omega
    rw[hjq]at hyt
    have hkl:(Cp.dd xs xs.length).length=k:=by rw[←hyt,List.length_take];omega
    refine Tr.fD (s:=s) (m:=1) (xs:=ys.map i64) tk fun _ hcap=> ?_
    refine dR (by omega) (by omega) (by omega) ?_
    dsimp only
    refine rW (e:=3) (zz:=i64 0) (z:=i64 0) (s:=s) (l:=k) (by kernel_rfl) (by kernel_rfl) rfl rfl tk (by omega) (fun _=> ?_) ?_
    ·rw[if_neg (by omega),Int.toNat_natCast]
    refine dR (by omega) (by omega) (by omega) ?_
    dsimp only
    rw[mV,Int.toNat_natCast,←List.map_take,hyt]
    rw[show k-(0:Int).toNat=k by omega,show s.c-(0:Int).toNat=s.c by omega]
    exact aa (x:=(⟨s.a,k,s.c⟩:ay)) rfl ⟨hkl.symm,rfl⟩ ag aB
  ·have he':xs.getD j 0≠xs.getD (j-1) 0:=by simpa using he
   rw[wrap64 (by omega) (by omega)]
   refine hX (xs.length-(j+1)) _ _ (by omega) ⟨j+1,by omega,by omega,rfl,rfl,rfl,fun i hi=> ?_⟩
   rcases Nat.lt_succ_iff_lt_or_eq.mp hi with h|rfl
   ·exact hnew i h
   ·exact .inr he'
 ·have hj':¬(j:Int)<(s.n:Nat):=of_decide_eq_false hc
  have hjl:j=xs.length:=by omega
  subst hjl
  have e:Cp.dd xs xs.length=xs:=by rw[Cp.sO (Nat.le_refl _) hnew,List.take_length]
  rw[e]
  exact aa (x:=s) rfl ⟨hn,rfl⟩ ag aB
abbrev E2:Value:= .func (.func 188) #[] #[]
theorem Af(x:Int):Gl.Spec ρ Tryz.prog 188 [i64 x] [] RB fun r M=>r=decide (x<1)∧M=[]:=by
 refine Gl.Spec.of (fun Q w h=>F.root.oS.calls x h) fun R=> ?_
 unfold F.root.oS
 exact aa (x:=decide (x<1)) rfl ⟨rfl,rfl⟩ ag aB
abbrev yD(x:Int):Bool:= !decide (x<1)
theorem ia{xs:List Int}{j:Nat}(h:j<xs.length):(xs.take (j+1)).filter yD=(xs.take j).filter yD++if xs.getD j 0<1 then[]else[xs.getD j 0]:=by
 rw[aJ 0 h,List.filter_append]
 congr 1
 by_cases g:xs.getD j 0<1
 ·rw[if_pos g,List.filter_cons_of_neg (by simpa using g)];rfl
 ·rw[if_neg g,List.filter_cons_of_pos (by simpa using g)];rfl
theorem B4(s:ay)(xs:List Int)(hl:xs.length<2^40):Gl.Spec ρ Tryz.prog 210 [.slice s.a s.n s.c,E2] [aE s 1 (xs.map i64)] R1
  fun r M=>((r= -1∧xs.filter yD=xs)∨∃i:Nat,r=i∧i<xs.length∧xs.getD i 0<1∧(xs.take i).filter yD=xs.take i)∧M=[aE s 1 (xs.map i64)]:=by
 refine Gl.Spec.of (fun Q w h=>F.av.eK.calls s E2 h) fun R=> ?_
 unfold F.av.eK
 refine Tr.jZ tk fun hn=> ?_
 refine aP (I:=fun m u M=>∃j:Nat,j≤xs.length∧m=xs.length-j∧u=((j:Int),())∧M=aE s 1 (xs.map i64)::R∧(xs.take j).filter yD=xs.take j) xs.length ⟨0,by omega,rfl,rfl,rfl,rfl⟩ ?_
 rintro m _ _ ⟨j,hj,rfl,rfl,rfl,hf⟩ X hX
 try simp only[aq,al]
 refine aj (fun hc=> ?_) (fun hc=> ?_)
 ·have hj':(j:Int)<(s.n:Nat):=of_decide_eq_true hc
  have hjl:j<xs.length:=by omega
  refine dY tk (by omega) (by omega) ?_
  rw[Int.toNat_natCast]
  refine iS Tryz.func188 (by kernel_rfl) (Af (xs.getD j 0)) .nil ?_
  rintro _ _ ⟨rfl,rfl⟩
  try simp only[aq,al]
  refine aj (fun h=> ?_) (fun h=> ?_)
  ·refine aa (x:=(j:Int)) rfl ⟨.inr ⟨j,rfl,hjl,of_decide_eq_true h,hf⟩,rfl⟩ ag aB
  ·have h':¬xs.getD j 0<1:=of_decide_eq_false h
   rw[wrap64 (by omega) (by omega)]
   refine hX (xs.length-(j+1)) _ _ (by omega) ⟨j+1,by omega,rfl,rfl,rfl,?_⟩
   rw[ia hjl,if_neg h',hf,aJ 0 hjl]
 ·have hj':¬(j:Int)<(s.n:Nat):=of_decide_eq_false hc
  rw[List.take_of_length_le (by omega)]at hf
  exact aa (x:=(-1:Int)) rfl ⟨.inl ⟨rfl,hf⟩,rfl⟩ ag aB
theorem uP(s:ay)(xs:List Int)(hl:xs.length<2^40):Gl.Spec ρ Tryz.prog 186 [.slice s.a s.n s.c,E2] [aE s 1 (xs.map i64)] RS
  fun r M=>r.n=(xs.filter yD).length∧M=[aE r 1 ((xs.filter yD).map i64)]:=by
 refine Gl.Spec.of (fun Q w h=>F.av.fy.calls s E2 h) fun R=> ?_
 unfold F.av.fy
 refine Tr.jZ tk fun hn=> ?_
 refine ae (B4 s xs hl) ag ?_
 rintro r _ ⟨hr,rfl⟩
 try simp only[aq,al]
 rcases hr with ⟨rfl,hf⟩|⟨i,rfl,hi,hlt,hf⟩
 ·refine aH rfl ?_
  rw[hf]
  exact aa (x:=s) rfl ⟨hn,rfl⟩ ag aB
 refine ak (by rw[beq_eq_false_iff_ne];omega) ?_
 rw[wrap64 (by omega) (by omega)]
 have hf1:xs.take i=(xs.take (i+1)).filter yD:=by rw[ia hi,if_pos hlt,List.append_nil,hf]
 refine aP (I:=fun m u M=>∃(k j:Nat) (ys:List Int),k<j∧j≤xs.length∧m=xs.length-j∧u=((k:Int),(j:Int),())∧M=aE s 1 (ys.map i64)::R∧ys.length=xs.length∧ys.take k=(xs.take j).filter yD∧∀q,j≤q→ys.getD q 0=xs.getD q 0) (xs.length-(i+1)) ⟨i,i+1,xs,by omega,by omega,rfl,rfl,rfl,rfl,hf1,fun _ _=>rfl⟩ ?_
 rintro m _ _ ⟨k,j,ys,hkj,hj,rfl,rfl,rfl,hyl,hyt,hyd⟩ X hX
 try simp only[aq,al]
 refine aj (fun hc=> ?_) (fun hc=> ?_)
 ·have hj':(j:Int)<(s.n:Nat):=of_decide_eq_true hc
  have hjl:j<xs.length:=by omega
  refine dY tk (by omega) (by omega) ?_
  rw[Int.toNat_natCast,hyd j (Nat.le_refl _)]
  refine iS Tryz.func188 (by kernel_rfl) (Af (xs.getD j 0)) .nil ?_
  rintro _ _ ⟨rfl,rfl⟩
  try simp only[aq,al]
  rw[wrap64 (n:=(j:Int)+1) (by omega) (by omega)]
  refine aj (fun h=> ?_) (fun h=> ?_)
  ·have h':¬xs.getD j 0<1:=by rw[Bool.not_eq_true']at h;exact of_decide_eq_false h
   refine tZ tk (by omega) (by omega) ?_
   rw[Int.toNat_natCast,wrap64 (n:=(k:Int)+1) (by omega) (by omega)]
   refine hX (xs.length-(j+1)) _ _ (by omega) ⟨k+1,j+1,ys.set k (xs.getD j 0),by omega,by omega,rfl,rfl,rfl,by rw[List.length_set];exact hyl,?_,fun q hq=> ?_⟩
   ·rw[lj (by omega),hyt,ia hjl,if_neg h']
   ·rw[dS,if_neg (by omega)];exact hyd q (by omega)
  ·have h':xs.getD j 0<1:=by rw[Bool.not_eq_false']at h;exact of_decide_eq_true h
   refine hX (xs.length-(j+1)) _ _ (by omega) ⟨k,j+1,ys,by omega,by omega,rfl,rfl,rfl,hyl,?_,fun q hq=>hyd q (by omega)⟩
   rw[hyt,ia hjl,if_pos h',List.append_nil]
 ·have hj':¬(j:Int)<(s.n:Nat):=of_decide_eq_false hc
  rw[List.take_of_length_le (l:=xs) (by omega)]at hyt
  have hkl:(xs.filter yD).length=k:=by rw[←hyt,List.length_take];omega
  refine Tr.fD (s:=s) (m:=1) (xs:=ys.map i64) tk fun _ hcap=> ?_
  refine dR (by omega) (by omega) (by omega) ?_
  dsimp only
  refine rW (e:=3) (zz:=i64 0) (z:=i64 0) (s:=s) (l:=k) (by kernel_rfl) (by kernel_rfl) rfl rfl tk (by omega) (fun _=> ?_) ?_
  ·rw[if_neg (by omega),Int.toNat_natCast]
  refine dR (by omega) (by omega) (by omega) ?_
  dsimp only
  rw[mV,Int.toNat_natCast,←List.map_take,hyt]
  rw[show k-(0:Int).toNat=k by omega,show s.c-(0:Int).toNat=s.c by omega]
  exact aa (x:=(⟨s.a,k,s.c⟩:ay)) rfl ⟨hkl.symm,rfl⟩ ag aB
theorem Cq(xs:List Int):(Sp.sort xs).Pairwise (·≤·):=by
 have:=List.pairwise_mergeSort (le:=fun x y:Int=>decide (x≤y)) (by intro a b c;simp;omega) (by intro a b;simp;omega) xs
 exact this.imp (by simp)
theorem AY(ls:List (List Int)):(Cp.dd (Sp.sort ls.flatten) (Sp.sort ls.flatten).length).filter yD=Mg.merge ls:=by
 refine Mg.zp ?_ fun a=> ?_
 ·refine List.Pairwise.filter _ (Cp.qW (fun i j hij hj=> ?_) (Nat.le_refl _))
  have hp:=Cq ls.flatten
  rw[List.getD_eq_getElem?_getD,List.getD_eq_getElem?_getD,List.getElem?_eq_getElem hj,List.getElem?_eq_getElem (Nat.lt_of_le_of_lt hij hj)]
  rcases Nat.lt_or_eq_of_le hij with h|rfl
  ·exact List.pairwise_iff_getElem.mp hp i j (by omega) hj h
  ·exact Int.le_refl _
 ·rw[List.mem_filter,Cp.vZ]
  have hm:a∈ls.flatten↔∃i,i<(Sp.sort ls.flatten).length∧a=(Sp.sort ls.flatten).getD i 0:=by
   have hp:(Sp.sort ls.flatten).Perm ls.flatten:=List.mergeSort_perm _ _
   rw[←hp.mem_iff,List.mem_iff_getElem]
   constructor
   ·rintro⟨i,hi,rfl⟩
    exact⟨i,hi,by rw[List.getD_eq_getElem?_getD,List.getElem?_eq_getElem hi];rfl⟩
   ·rintro⟨i,hi,rfl⟩
    exact⟨i,hi,by rw[List.getD_eq_getElem?_getD,List.getElem?_eq_getElem hi];rfl⟩
  rw[←hm,List.mem_flatten]
  have hg:yD a=true↔0<a:=by simp;omega
  rw[hg,and_comm]
theorem Aq(z:ay)(l:List ru)(rz:eX ρ z 1 (l.map jF))(rl:∀x∈l,eX ρ x.1 1 (x.2.map i64))(hl:(l.flatMap (·.2)).length<2^39)(hl2:l.length<2^40):
  Gl.Spec ρ Tryz.prog 149 [.slice z.a z.n z.c] [] RS fun r M=>r.n=(Mg.merge (l.map (·.2))).length∧M=[aE r 1 ((Mg.merge (l.map (·.2))).map i64)]:=by
 refine Gl.Spec.of (fun Q w h=>F.root.wE.calls z h) fun R=> ?_
 unfold F.root.wE
 refine ae (xj z l rz rl hl hl2) ag ?_
 rintro r _ ⟨hr,rfl⟩
 try simp only[aq,al]
 refine ae (qF r (l.flatMap (·.2)) (by omega)) ag ?_
 rintro _ _ rfl
 try simp only[aq,al]
 refine ae (vE r (Sp.sort (l.flatMap (·.2))) (by rw[Sp.dB];omega)) ag ?_
 rintro r2 _ ⟨hr2,rfl⟩
 try simp only[aq,al]
 have hdl:=Cp.y7 (Sp.sort (l.flatMap (·.2))) (Sp.sort (l.flatMap (·.2))).length
 rw[Sp.dB]at hdl
 refine ae (uP r2 (Cp.dd (Sp.sort (l.flatMap (·.2))) (Sp.sort (l.flatMap (·.2))).length) (by rw[Sp.dB];omega)) ag ?_
 rintro r3 _ ⟨hr3,rfl⟩
 try simp only[aq,al]
 have e:=AY (l.map (·.2))
 rw[←List.flatMap_def]at e
 rw[e]at hr3⊢
 exact aa (x:=r3) rfl ⟨hr3,rfl⟩ ag aB
end Go.Proofs.YtfepdmpplahloaaGreat
