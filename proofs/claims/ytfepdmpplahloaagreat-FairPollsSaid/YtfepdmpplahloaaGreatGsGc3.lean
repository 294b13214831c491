/- Collections. -/
import Derived.Test.YtfepdmpplahloaaGreatGsGc2
set_option linter.unusedSimpArgs false
set_option linter.unusedVariables false
namespace Go.Proofs.YtfepdmpplahloaaGreat
open Go Go.Gl
variable{ρ0 ρ:FR}{L L':List aA}{Post:Value→List aA→Prop}{T:Tree}
def QB(S:aD):Prop:=∀a,Qu.ba S a=true→(Ob.get S a 1).1<2^62
def NZ(rows:List (List Int)):Prop:=∀r∈rows,∀a∈r,a≠0
theorem QB.put{S:aD}{cs:List aS}(hw:aO S cs)(H:QB S){a i x:Int}(hx:i≠1∨x<2^62):QB (Ob.put S a i x).2:=by
 intro b hb
 have hb':Qu.ba S b=true:=by
  unfold Qu.ba at hb⊢
  rw[bb hw]at hb;exact hb
 obtain⟨hd,hh,hk⟩:=aM hb'
 have hn:=dm hw hh hk
 by_cases g:(Ob.fieldAt S a i).2=0
 ·obtain⟨ha,hha,h0,h1,_⟩:=Ob.ee hw g
  rw[((Ob.j9 hw (x:=x) hha h0 h1).2 _ _ hh).2 1 (by omega) (by omega)]
  split
  ·rename_i e
   rcases hx with h|h
   ·exact absurd e.2.symm h
   ·exact h
  ·exact H b hb'
 ·have e:(Ob.put S a i x).2=S:=by unfold Ob.put;rw[if_pos g]
  rw[e];exact H b hb'
theorem yZ{S:aD}{cs:List aS}(hw:aO S cs){a:Int}(h:Qu.ba S a=true):a≠0:=fun e=>by
 obtain⟨hd,hh,_⟩:=aM h
 rw[e]at hh
 exact Mk.gF hw (by unfold Mk.obj;rw[hh];rfl)
theorem iM{S:aD}{cs:List aS}(hw:aO S cs)(hq:QB S)(rows:List (List Int))(i a:Int):aO (Qu.bh S rows i a) cs∧QB (Qu.bh S rows i a):=by
 unfold Qu.bh
 split
 ·split
  ·exact⟨hw.put _ _ _,hq.put hw (.inl (by decide))⟩
  ·exact⟨(hw.put _ _ _).put _ _ _,(hq.put hw (.inl (by decide))).put (hw.put _ _ _) (.inl (by decide))⟩
 ·exact⟨hw,hq⟩
theorem uc{S:aD}{cs:List aS}(hw:aO S cs){rows:List (List Int)}(hz:NZ rows)(i a:Int):NZ (Qu.cE S rows i a):=by
 unfold Qu.cE
 split
 ·rename_i h
  rw[Bool.and_eq_true]at h
  intro r hr b hb
  rcases List.mem_or_eq_of_mem_set hr with hr|rfl
  ·exact hz r hr b hb
  ·rcases List.mem_append.mp hb with hb|hb
   ·exact hz _ (jj h.1) b hb
   ·rw[List.mem_singleton]at hb;subst hb;exact yZ hw h.2
 ·exact hz
theorem rI{S:aD}{cs:List aS}(hw:aO S cs)(hq:QB S){rows:List (List Int)}(hz:NZ rows)(a:Int):aO (Rf.ct S rows a).2.1 cs∧QB (Rf.ct S rows a).2.1∧NZ (Rf.ct S rows a).2.2∧(Qu.ba S a=true→Rf.qn S a<2^62):=by
 have hw1:=hw.put a 0 0
 have hq1:QB (Ob.put S a 0 0).2:=hq.put hw (.inl (by decide))
 refine⟨?_,?_,?_,fun h=> ?_⟩
 ·unfold Rf.ct
  split
  ·split
   ·exact hw1
   ·split
    ·exact(iM hw1 hq1 _ _ _).1
    ·exact(iM hw1 hq1 _ _ _).1.put _ _ _
  ·exact hw
 ·unfold Rf.ct
  split
  ·split
   ·exact hq1
   ·split
    ·exact(iM hw1 hq1 _ _ _).2
    ·exact(iM hw1 hq1 _ _ _).2.put (iM hw1 hq1 _ _ _).1 (.inr (by decide))
  ·exact hq
 ·unfold Rf.ct
  split
  ·split
   ·exact hz
   ·split
    ·exact uc hw1 hz _ _
    ·exact uc hw1 hz _ _
  ·exact hz
 ·refine hq1 a ?_
  unfold Qu.ba at h⊢
  rw[bb hw];exact h
theorem sX{cs:List aS}:∀{l:List Int} {S:aD},aO S cs→QB S→aO (Rf.eJ S l) cs∧QB (Rf.eJ S l)
 |[],_,hw,hq=>⟨hw,hq⟩
 |a::l,S,hw,hq=>sX (l:=l) (hw.put a 0 0) (hq.put hw (.inl (by decide)))
def Rf.bq(S:aD)(rows:List (List Int))(l:List Int):aD×List (List Int):=l.foldl (fun q a=>(Rf.ct q.1 q.2 a).2) (S,rows)
theorem oC{cs:List aS}:∀{l:List Int} {S:aD} {rows:List (List Int)},aO S cs→QB S→NZ rows→aO (Rf.bq S rows l).1 cs∧QB (Rf.bq S rows l).1∧NZ (Rf.bq S rows l).2
 |[],_,_,hw,hq,hz=>⟨hw,hq,hz⟩
 |a::l,S,rows,hw,hq,hz=>by
  obtain⟨h1,h2,h3,_⟩:=rI hw hq hz a
  exact oC (l:=l) (S:=(Rf.ct S rows a).2.1) (rows:=(Rf.ct S rows a).2.2) h1 h2 h3
theorem xP(S:aD)(rows:List (List Int))(l:List Int)(a:Int):Rf.bq S rows (l++[a])=(Rf.ct (Rf.bq S rows l).1 (Rf.bq S rows l).2 a).2:=by
 unfold Rf.bq;rw[List.foldl_append];rfl
def Rt.after(x:Rt)(cl pu pn lv:List Int):Rt:=
 {x with S:=Sw.cz (Rf.bq (Rf.clear x.S cl).2 x.rows pu).1 lv,rows:=(Rf.bq (Rf.clear x.S cl).2 x.rows pu).2,wa:=(Fn.jK x.wa x.pe pn).1,pe:=(Fn.jK x.wa x.pe pn).2,rn:=x.rn+1}
def Rt.Bh(x:Rt)(s1 s2:ay)(all:Bool):mY:=⟨s1,s2,x.ck,x.free,x.aZ,all,x.stack⟩
structure Rt.Fq(x:Rt):Prop extends x.Ok where
 qb:QB x.S
 st:∀r∈refsOf x.S,r.2.2.2.2.1<9223372036854775808
 ck:x.ck<9223372036854775808
 aZ:x.aZ<9223372036854775808
 stack:1≤x.stack∧x.stack≤4096
 rn:0≤x.rn∧x.rn<2^60
theorem wA{S:aD}{rows:List (List Int)}(h:sK S rows):NZ rows:=fun r hr a ha=>(h.lk r hr).ne a ha
abbrev uF(a b c d:ay):List Value:=[.slice a.a a.n a.c,.slice b.a b.n b.c,.slice c.a c.n c.c,.slice d.a d.n d.c]
theorem vC(i:Pl)(x:Rt)(H:x.Fq)(all:Bool):Gl.Spec ρ Tryz.prog 68 [.pointer (some ⟨i.p,0,none⟩),.bool all] (i.A x) OE
  fun r M=>∃(z1 z2 s1 s2 s3 s4:ay) (l:List bW) (m2 m3:List Bool),lD x.S x.cs (x.Bh z1 z2 all) x.roots x.wa l m2 m3∧r=((s1,s2,s3,s4,()),0,())∧
   M=[aE s1 1 ((aT x.S m2 m3 l).map i64),aE s2 1 ((bG x.S m3 (aT x.S m2 m3 l)).map i64),aE s3 1 ((bA x.S m2 x.wa).map i64),aE s4 1 ((Mk.all m3).map i64)]++
    i.A (x.after (aT x.S m2 m3 l) (bG x.S m3 (aT x.S m2 m3 l)) (bA x.S m2 x.wa) (Mk.all m3)):=by
 refine Gl.Spec.of (fun Q w h=>F.gc.bY.Collect.calls (some ⟨i.p,0,none⟩) all h) fun R=> ?_
 unfold F.gc.bY.Collect
 try simp only[aq,al]
 have hw:=H.hw
 refine ax fun b1=> ?_
 rw[AP]
 refine ak rfl ?_
 refine od (fun j M=>∃(b:Nat) (z1 z2 s1 s2 s3 s4:ay) (l:List bW) (m2 m3:List Bool),j=(⟨b,0,none⟩,0,())∧lD x.S x.cs (x.Bh z1 z2 all) x.roots x.wa l m2 m3∧
  M=[aw b (uF s1 s2 s3 s4),aw b1 (uF ⟨none,0,0⟩ ⟨none,0,0⟩ ⟨none,0,0⟩ ⟨none,0,0⟩),aE s1 1 ((aT x.S m2 m3 l).map i64),aE s2 1 ((bG x.S m3 (aT x.S m2 m3 l)).map i64),aE s3 1 ((bA x.S m2 x.wa).map i64),aE s4 1 ((Mk.all m3).map i64)]++(i.A x++R)) ?_ ?_
 ·rintro _ _ ⟨b,z1,z2,s1,s2,s3,s4,l,m2,m3,rfl,hco,rfl⟩
  have hlf:=lD.ux hw hco
  have hcl:(aT x.S m2 m3 l).length<2^20:=by
   unfold aT
   rw[List.length_append]
   have h1:=kO (S:=x.S) (m:=m2) (xs:=[1,2]) (l:=l)
   have h2:=kO (S:=x.S) (m:=m3) (xs:=[3]) (l:=l)
   omega
  have hpu:(bG x.S m3 (aT x.S m2 m3 l)).length<2^20:=by
   unfold bG
   have:=List.length_filter_le (fun a=>Sp.has m3 a&&decide ((Ob.get x.S a 1).1>0)) (aT x.S m2 m3 l)
   omega
  have hpn:(bA x.S m2 x.wa).length≤x.wa.length:=BG
  have hlv:(Mk.all m3).length<2^40:=by
   have h1:=Mk.fF (m:=m3)
   have h2:=hco.c3.len
   have hwl:=H.hw.wf.len
   have hwm:=H.hw.wf.gv
   omega
  have hwa:=H.wa
  have hpe:=H.pe
  unfold Rt.after
  generalize hce:aT x.S m2 m3 l=cl at*
  generalize hpue:bG x.S m3 cl=pu at*
  generalize hpne:bA x.S m2 x.wa=pn at*
  generalize hlve:Mk.all m3=lv at*
  refine ak rfl (aK (ah ?_))
  refine ai (k:= .ptr) (b:=i.p) (off:=0) (x:=some ⟨i.r,0,none⟩) (by rw[af]) tk rfl ?_
  refine ai (k:= .slice) (b:=b) (off:=0) (x:=s1) (by rw[af]) tk rfl ?_
  refine ae (Spec.own (s:=s1) (m:=1) (xs:=cl.map i64) fun ρ1 hle1 r1=>nK i.r i.b x.S x.cs hw x.rows x.aU s1 cl r1 (by omega)) ag ?_
  rintro _ _ ⟨_,⟨rfl,rfl⟩,rfl⟩
  try simp only[aq,al]
  refine ai (k:= .slice) (b:=b) (off:=1) (x:=s2) (by rw[af]) tk rfl ?_
  have hS1:aO (Rf.clear x.S cl).2 x.cs∧QB (Rf.clear x.S cl).2:=by
   unfold Rf.clear
   split
   ·exact sX hw H.qb
   ·exact⟨hw,H.qb⟩
  generalize hSe:(Rf.clear x.S cl).2=S1 at*
  refine Tr.jZ (s:=s2) (xs:=pu) tk fun hn2=> ?_
  refine Tr.perm (aI.perm (M:=[aE s1 1 (cl.map i64),aE s2 1 (pu.map i64),aE s3 1 (pn.map i64),aE s4 1 (lv.map i64),aw b (uF s1 s2 s3 s4),aw b1 (uF ⟨none,0,0⟩ ⟨none,0,0⟩ ⟨none,0,0⟩ ⟨none,0,0⟩),aw i.p (i.cs x),cL i.r i.b x.rows x.aU,gf i.h x.hs,aw i.o (x.ro.map i64),dw i.f i.b x.wa x.pe,au i.b S1 x.cs]) ag) ?_
  refine aP (I:=fun m u M=>∃j:Nat,j≤pu.length∧m=pu.length-j∧u=((j:Int),())∧
   M=[aE s1 1 (cl.map i64),aE s2 1 (pu.map i64),aE s3 1 (pn.map i64),aE s4 1 (lv.map i64),aw b (uF s1 s2 s3 s4),aw b1 (uF ⟨none,0,0⟩ ⟨none,0,0⟩ ⟨none,0,0⟩ ⟨none,0,0⟩),aw i.p (i.cs x),cL i.r i.b (Rf.bq S1 x.rows (pu.take j)).2 x.aU,gf i.h x.hs,aw i.o (x.ro.map i64),dw i.f i.b x.wa x.pe,au i.b (Rf.bq S1 x.rows (pu.take j)).1 x.cs]++R) pu.length ⟨0,by omega,rfl,rfl,rfl⟩ ?_
  rintro m _ _ ⟨j,hj,rfl,rfl,rfl⟩ X hX
  try simp only[aq,al]
  refine aj (fun hc=> ?_) (fun hc=> ?_)
  ·have hj':(j:Int)<(s2.n:Nat):=of_decide_eq_true hc
   have hjl:j<pu.length:=by omega
   refine dY (s:=s2) (xs:=pu) tk (by omega) (by omega) ?_
   rw[Int.toNat_natCast]
   refine ah ?_
   refine ai (k:= .ptr) (b:=i.p) (off:=0) (x:=some ⟨i.r,0,none⟩) (by rw[af]) tk rfl ?_
   obtain⟨e1,e2,e3⟩:=oC (l:=pu.take j) hS1.1 hS1.2 (wA H.rows)
   have e4:=(rI e1 e2 e3 (pu.getD j 0)).2.2.2
   refine ae (nW i.r i.b (Rf.bq S1 x.rows (pu.take j)).1 x.cs e1 (Rf.bq S1 x.rows (pu.take j)).2 e3 x.aU (pu.getD j 0) e4) ag ?_
   rintro _ _ ⟨rfl,rfl⟩
   try simp only[aq,al]
   rw[wrap64 (by omega) (by omega)]
   have es:Rf.bq S1 x.rows (pu.take (j+1))=(Rf.ct (Rf.bq S1 x.rows (pu.take j)).1 (Rf.bq S1 x.rows (pu.take j)).2 (pu.getD j 0)).2:=by rw[aJ 0 hjl,xP]
   rw[←es]
   exact Tr.perm (aI.perm (M:=[aE s1 1 (cl.map i64),aE s2 1 (pu.map i64),aE s3 1 (pn.map i64),aE s4 1 (lv.map i64),aw b (uF s1 s2 s3 s4),aw b1 (uF ⟨none,0,0⟩ ⟨none,0,0⟩ ⟨none,0,0⟩ ⟨none,0,0⟩),aw i.p (i.cs x),cL i.r i.b (Rf.bq S1 x.rows (pu.take (j+1))).2 x.aU,gf i.h x.hs,aw i.o (x.ro.map i64),dw i.f i.b x.wa x.pe,au i.b (Rf.bq S1 x.rows (pu.take (j+1))).1 x.cs]) ag) (hX (pu.length-(j+1)) _ _ (by omega) ⟨j+1,by omega,rfl,rfl,rfl⟩)
  ·have hj':¬(j:Int)<(s2.n:Nat):=of_decide_eq_false hc
   rw[List.take_of_length_le (by omega)]
   obtain⟨e1,e2,e3⟩:=oC (l:=pu) hS1.1 hS1.2 (wA H.rows)
   generalize hq:Rf.bq S1 x.rows pu=q at*
   obtain⟨S2,rows2⟩:=q
   dsimp only at*
   refine aK (ah ?_)
   refine ai (k:= .ptr) (b:=i.p) (off:=3) (x:=some ⟨i.f,0,none⟩) (by rw[af]) tk rfl ?_
   refine ai (k:= .slice) (b:=b) (off:=2) (x:=s3) (by rw[af]) tk rfl ?_
   refine ae (Spec.own (s:=s3) (m:=1) (xs:=pn.map i64) fun ρ1 hle1 r1=>Ac i.f i.b x.wa x.pe s3 pn r1 (by omega)) ag ?_
   rintro _ _ ⟨_,rfl,rfl⟩
   try simp only[aq,al]
   refine aK (ah ?_)
   refine ai (k:= .ptr) (b:=i.p) (off:=4) (x:=some ⟨i.b,0,none⟩) (by rw[af]) tk rfl ?_
   refine ai (k:= .slice) (b:=b) (off:=3) (x:=s4) (by rw[af]) tk rfl ?_
   refine Tr.jZ (s:=s4) (xs:=lv) tk fun hn4=> ?_
   refine ae (td i.b S2 x.cs e1 (A:=[aE s4 1 (lv.map i64)]) s4 lv (Rd.sl .here (by rw[List.length_map];omega)) hlv) ag ?_
   rintro _ _ ⟨rfl,rfl⟩
   try simp only[aq,al]
   refine ah ?_
   refine ai (k:= .int .i64) (b:=i.p) (off:=9) (x:=x.rn) (by rw[af]) tk rfl ?_
   have hrn:=H.rn
   rw[wrap64 (n:=x.rn+1) (by omega) (by omega)]
   refine ah ?_
   refine aL (b:=i.p) (off:=9) (by rw[af]) tk (by simp) rfl ?_
   refine bD (b:=b) (off:=0) (x:=(s1,s2,s3,s4,())) [] rfl tk rfl ?_
   refine aL (b:=b1) (off:=0) rfl tk (by simp) rfl ?_
   refine bD (b:=b1) (off:=0) (x:=(s1,s2,s3,s4,())) [] rfl tk rfl ?_
   have h2:S2=(Rf.bq S1 x.rows pu).1:=by rw[hq]
   have h3:rows2=(Rf.bq S1 x.rows pu).2:=by rw[hq]
   clear hq
   subst h2 h3 hSe hlve hpne hpue hce
   exact aa (x:=((s1,s2,s3,s4,()),(0:Int),())) rfl ⟨z1,z2,s1,s2,s3,s4,l,m2,m3,hco,rfl,rfl⟩ ag aB
 ·intro X hX
  refine aK (aR [aw i.p (i.cs x)] ag ?_)
  refine ah (ar (k:= .ptr) (b:=i.p) (off:=4) (x:=some ⟨i.b,0,none⟩) (by rw[af]) tk rfl ?_)
  have hroots:x.roots.length<2^30:=by
   have h1:=Mg.yn [(Hn.all x.hs).map (·.2),x.ro,x.rows.flatMap (·.take 1),x.pe]
   have h2:(Hn.all x.hs).length≤512:=by unfold Hn.all;rw[H.hs.len];exact Hn.fF 512
   have h3:=pQ (rows:=x.rows)
   have h4:=H.rows.ux
   have h5:=H.pe
   have h6:=H.ro
   simp only[List.flatten_cons,List.flatten_nil,List.length_append,List.length_nil,List.length_map]at h1
   unfold Rt.roots
   omega
  have hful:=sD H.hw.wf
  have hwl:=H.hw.wf.len
  have hwm:=H.hw.wf.gv
  have proc:∀(ρ':FR) (s1 s2:ay),eX ρ' s1 1 (x.roots.map i64)→eX ρ' s2 1 (x.wa.map i64)→Gl.Spec ρ' Tryz.prog 110 [.pointer (some ⟨i.b,0,none⟩),FC (x.Bh s1 s2 all)] [au i.b x.S x.cs] OE _:=fun ρ' s1 s2 r1 r2=>
   sJ i.b x.S x.cs H.hw (x.Bh s1 s2 all) ⟨H.ck,(by show x.free<_;unfold Rt.free Rt.used;omega),H.aZ⟩ x.roots x.wa r1 r2 hroots (by have:=H.wa;omega) H.st H.stack
  refine fb ?_ ?_
  ·refine ae (Dj i x H.toOk all) ag ?_
   rintro _ _ ⟨z1,z2,rfl,hz1,hz2,rfl⟩
   try simp only[aq,al]
   refine aN ag (fb ?_ ?_)
   ·refine ae (Spec.own (s:=z1) (m:=1) (xs:=x.roots.map i64) fun ρ1 hle1 r1=>Spec.own (s:=z2) (m:=1) (xs:=x.wa.map i64) fun ρ2 hle2 r2=>proc ρ2 z1 z2 (r1.le hle2) r2) ag ?_
    rintro _ _ ⟨_,⟨_,⟨s1,s2,s3,s4,l,m2,m3,rfl,hco,rfl⟩,rfl⟩,rfl⟩
    try simp only[aq,al]
    refine ax fun b=> ?_
    refine aL (b:=b) (off:=0) rfl tk (by simp) rfl ?_
    refine Tr.drop (A:=aE z1 1 (x.roots.map i64)) tk ?_
    refine Tr.drop (A:=aE z2 1 (x.wa.map i64)) tk ?_
    exact Tr.perm (aI.perm (M:=[aw b (uF s1 s2 s3 s4),aw b1 (uF ⟨none,0,0⟩ ⟨none,0,0⟩ ⟨none,0,0⟩ ⟨none,0,0⟩),aE s1 1 ((aT x.S m2 m3 l).map i64),aE s2 1 ((bG x.S m3 (aT x.S m2 m3 l)).map i64),aE s3 1 ((bA x.S m2 x.wa).map i64),aE s4 1 ((Mk.all m3).map i64)]++i.A x) ag) (hX _ _ ⟨b,z1,z2,s1,s2,s3,s4,l,m2,m3,rfl,hco,rfl⟩)
   ·refine ax fun b=>aN ag ?_
    refine ae (Spec.own (s:=z1) (m:=1) (xs:=x.roots.map i64) fun ρ1 hle1 r1=>Spec.own (s:=z2) (m:=1) (xs:=x.wa.map i64) fun ρ2 hle2 r2=>proc ρ2 z1 z2 (r1.le hle2) r2) ag ?_
    rintro _ _ ⟨_,⟨_,⟨s1,s2,s3,s4,l,m2,m3,rfl,hco,rfl⟩,rfl⟩,rfl⟩
    try simp only[aq,al]
    refine aL (b:=b) (off:=0) rfl tk (by simp) rfl ?_
    refine Tr.drop (A:=aE z1 1 (x.roots.map i64)) tk ?_
    refine Tr.drop (A:=aE z2 1 (x.wa.map i64)) tk ?_
    exact Tr.perm (aI.perm (M:=[aw b (uF s1 s2 s3 s4),aw b1 (uF ⟨none,0,0⟩ ⟨none,0,0⟩ ⟨none,0,0⟩ ⟨none,0,0⟩),aE s1 1 ((aT x.S m2 m3 l).map i64),aE s2 1 ((bG x.S m3 (aT x.S m2 m3 l)).map i64),aE s3 1 ((bA x.S m2 x.wa).map i64),aE s4 1 ((Mk.all m3).map i64)]++i.A x) ag) (hX _ _ ⟨b,z1,z2,s1,s2,s3,s4,l,m2,m3,rfl,hco,rfl⟩)
  ·refine ax fun b=>aN ag ?_
   refine ae (Dj i x H.toOk all) ag ?_
   rintro _ _ ⟨z1,z2,rfl,hz1,hz2,rfl⟩
   try simp only[aq,al]
   refine aN ag ?_
   refine ae (Spec.own (s:=z1) (m:=1) (xs:=x.roots.map i64) fun ρ1 hle1 r1=>Spec.own (s:=z2) (m:=1) (xs:=x.wa.map i64) fun ρ2 hle2 r2=>proc ρ2 z1 z2 (r1.le hle2) r2) ag ?_
   rintro _ _ ⟨_,⟨_,⟨s1,s2,s3,s4,l,m2,m3,rfl,hco,rfl⟩,rfl⟩,rfl⟩
   try simp only[aq,al]
   refine aL (b:=b) (off:=0) rfl tk (by simp) rfl ?_
   refine Tr.drop (A:=aE z1 1 (x.roots.map i64)) tk ?_
   refine Tr.drop (A:=aE z2 1 (x.wa.map i64)) tk ?_
   exact Tr.perm (aI.perm (M:=[aw b (uF s1 s2 s3 s4),aw b1 (uF ⟨none,0,0⟩ ⟨none,0,0⟩ ⟨none,0,0⟩ ⟨none,0,0⟩),aE s1 1 ((aT x.S m2 m3 l).map i64),aE s2 1 ((bG x.S m3 (aT x.S m2 m3 l)).map i64),aE s3 1 ((bA x.S m2 x.wa).map i64),aE s4 1 ((Mk.all m3).map i64)]++i.A x) ag) (hX _ _ ⟨b,z1,z2,s1,s2,s3,s4,l,m2,m3,rfl,hco,rfl⟩)
end Go.Proofs.YtfepdmpplahloaaGreat
