/- Operations as one relation: it tells one answer, and keeps what is well. -/
import Derived.Test.YtfepdmpplahloaaGreatGsRtB
import Derived.Test.YtfepdmpplahloaaGreatGsSd
set_option linter.unusedSimpArgs false
set_option linter.unusedVariables false
namespace Go.Proofs.YtfepdmpplahloaaGreat
open Go Go.Gl
variable{ρ0 ρ:FR}{L L':List aA}{Post:Value→List aA→Prop}{T:Tree}
namespace Rx
def BH(x:Rt)(k a b c:Int)(y:bg):Prop:=
 if k=1 then y=iu x a b else if k=2 then fZ x a y else if k=3 then eM x 2 a y else if k=4 then eM x 3 a y else
 if k=5 then y=get x a b else if k=6 then y=set x a b c else if k=7 then y=put x a b c else if k=8 then y=drop x a else
 if k=9 then y=root x a b else if k=10 then y=take x a else if k=11 then eV x a b c y else if k=12 then y=aG x a else
 if k=13 then y=clear x a else if k=14 then y=enqueue x a else if k=15 then y=jI x else if k=16 then y=eU x a else
 if k=17 then y=final x a else if k=18 then y=run x a b c else if k=19 then cU x a y else if k=20 then y=tick x a else
 if k=21 then y=count x a else y=((0,1),x)
theorem rX(k:Int):k=1∨k=2∨k=3∨k=4∨k=5∨k=6∨k=7∨k=8∨k=9∨k=10∨k=11∨k=12∨k=13∨k=14∨k=15∨k=16∨k=17∨k=18∨k=19∨k=20∨k=21∨(k<1∨21<k):=by omega
theorem px{x:Rt}{k a b c:Int}{y:bg}(h:k<1∨21<k):BH x k a b c y=(y=((0,1),x)):=by
 unfold BH
 iterate 21 rw[if_neg (by omega)]
def wI(mk:Rt→bg):Prop:=∀(M:Int) (y:Rt),y.Inv M→(mk y).2.Inv (M+1)
theorem l8{h:Hd}(hk:h.k≠4):wI (mk h):=fun M y Iy=>
 {Iy with w:=Iy.w.make hk,aU:=⟨Iy.aU.1,by have:=Iy.aU.2;show y.aU≤_;omega⟩,rn:=⟨Iy.rn.1,by have:=Iy.rn.2;show y.rn≤_;omega⟩,h:=Iy.h.le (by omega)}
theorem qS(a o c:Int):wI (zY a o c):=fun M y Iy=>by
 obtain⟨w',s1,s2⟩:=Iy.w.aY a o c y.ck Iy.ck.2 Iy.aU.1
 exact{w:=w',h:=Iy.h.le (by omega),ro:=Iy.ro,ck:=Iy.ck,aU:=⟨by have:=Iy.aU.1;show 0≤(Rf.aY y.S y.cs y.rows y.aU a o c y.ck).2.2.2;omega,by have:=Iy.aU.2;show(Rf.aY y.S y.cs y.rows y.aU a o c y.ck).2.2.2≤_;omega⟩,rn:=⟨Iy.rn.1,by have:=Iy.rn.2;show y.rn≤_;omega⟩,aZ:=Iy.aZ,stack:=Iy.stack}
end Rx
structure Rt.EG(x:Rt)(N:Int):Prop where
 I:x.Inv N
 D:x.uo
 S:x.mX
namespace Rt.EG
variable{x:Rt}{N M:Int}
theorem Fs{x':Rt}{all:Bool}(H:x.EG N)(hN:N<2^50)(h:x.fh x' all):x'.EG (N+1):=by
 obtain⟨z1,z2,l,m2,m3,hC,rfl⟩:=h
 exact⟨H.I.after hC,H.D.after H.I hN hC,H.S.after H.D H.I hC⟩
end Rt.EG
namespace Hn
theorem Am(hs:List Slot)(i t:Nat)(e:Slot):aQ (hs.set i e) t=e∨aQ (hs.set i e) t=aQ hs t:=by
 unfold aQ
 rw[List.getD_eq_getElem?_getD,List.getElem?_set]
 by_cases h:i=t
 ·rw[if_pos h]
  by_cases g:i<hs.length
  ·rw[if_pos g];exact .inl rfl
  ·rw[if_neg g,List.getD_eq_getElem?_getD,List.getElem?_eq_none (by omega)];exact .inr rfl
 ·rw[if_neg h,List.getD_eq_getElem?_getD];exact .inr rfl
theorem By(hs:List Slot)(a:Int)(t:Nat):(aQ (du hs a) t).2=a∨aQ (du hs a) t=aQ hs t:=by
 unfold du
 split
 ·exact .inr rfl
 ·split
  ·rename_i i _
   rcases Am hs i t ((aQ hs i).1,a)with h|h
   ·rw[h];exact .inl rfl
   ·exact .inr h
  ·exact .inr rfl
theorem Ch(hs:List Slot)(x:Int)(t:Nat):(aQ (gG hs x) t).2=0∨aQ (gG hs x) t=aQ hs t:=by
 unfold gG
 split
 ·rename_i i _
  rcases Am hs i t ((aQ hs i).1+1,0)with h|h
  ·rw[h];exact .inl rfl
  ·exact .inr h
 ·exact .inr rfl
end Hn
namespace Rt.mX
variable{x:Rt}{N M:Int}
theorem held(H:x.mX)(h:Int):jN x.S (Hn.held x.hs h).1:=by
 unfold Hn.held
 split
 ·exact H.hs _
 ·exact .inl rfl
theorem gA(H:x.mX)(h:Int)(o:Bool):jN x.S (Rx.gA x h o).1:=by
 unfold Rx.gA
 split
 ·exact .inl rfl
 ·exact H.held h
theorem E7(H:x.mX){v:Int}(hv:jN x.S v):(Rx.dO x v).mX:=by
 unfold Rx.dO
 split
 ·exact H
 ·exact⟨H.fY,fun t=>(Hn.By x.hs v t).elim (fun e=>by show jN x.S _;rw[e];exact hv) (fun e=>by show jN x.S _;rw[e];exact H.hs t),H.ro⟩
theorem drop(H:x.mX)(a:Int):(Rx.drop x a).2.mX:=⟨H.fY,fun t=>(Hn.Ch x.hs a t).elim (fun e=> .inl e) (fun e=>by show jN x.S _;rw[show Hn.aQ (Rx.drop x a).2.hs t=_ from e];exact H.hs t),H.ro⟩
theorem place(H:x.mX)(i:Int){a:Int}(ha:jN x.S a):({x with ro:=Rx.cw x.ro i a}:Rt).mX:=⟨H.fY,H.hs,fun v hv=>by
 change v∈Rx.cw x.ro i a at hv
 unfold Rx.cw at hv
 split at hv
 ·rcases List.mem_or_eq_of_mem_set hv with h|rfl
  ·exact H.ro v h
  ·exact ha
 ·exact H.ro v hv⟩
theorem heap(H:x.mX){S':aD}{rows:List (List Int)}{wa:List Int}{aU:Int}(h:Sd S' x.cs)(ho:∀a,Mk.obj x.S a→Mk.obj S' a):({x with S:=S',rows:=rows,wa:=wa,aU:=aU}:Rt).mX:=⟨h,fun t=>(H.hs t).mono (ho _),fun v hv=>(H.ro v hv).mono (ho _)⟩
theorem dK{S S':aD}(h:∀b,Ob.head S' b=Ob.head S b)(a:Int)(ho:Mk.obj S a):Mk.obj S' a:=by unfold Mk.obj;rw[h];exact ho
theorem pw{S:aD}{cs:List aS}(hw:aO S cs)(h:Hd)(a:Int)(ho:Mk.obj S a):Mk.obj (Ob.make S cs h).2.2 a:=by
 by_cases h0:(Ob.make S cs h).2.1=0
 ·unfold Mk.obj at ho⊢
  cases hh:Ob.head S a with
  |none=>rw[hh]at ho;cases ho
  |some hd=>rw[(Ob.bX hw h0 hh).1];rfl
 ·rw[(Wl.gH h0).1];exact ho
theorem xf{S:aD}{cs:List aS}(hw:aO S cs)(rows:List (List Int))(n c o q t:Int)(a:Int)(ho:Mk.obj S a):Mk.obj (Rf.aY S cs rows n c o q t).2.2.1 a:=by
 unfold Rf.aY
 split
 ·exact ho
 ·split
  ·exact pw hw _ a ho
  ·exact dK (fun b=>Wl.iC _ (hw.make _) b) a (pw hw _ a ho)
end Rt.mX
namespace QN
variable{S S':aD}{cs:List aS}{n:Int}
theorem AG(hw:aO S cs)(H:QN S n){a i x:Int}(hr:Qu.ba S a=false):QN (Ob.put S a i x).2 n:=fun b hb=>by
 have hrb:Qu.ba S b=true:=by rw[bI hw]at hb;exact hb
 rw[bR hw hrb (by decide) (by decide),if_neg (fun g=>by rw[g.1,hr]at hrb;cases hrb)]
 exact H b hrb
theorem make(hw:aO S cs)(H:QN S n)(hn:0≤n)(h:Hd):QN (Ob.make S cs h).2.2 n:=by
 by_cases h0:(Ob.make S cs h).2.1=0
 ·intro b hb
  obtain⟨hd,hh,hk⟩:=aM hb
  have h5:=dm (hw.make h) hh hk
  rcases Wl.jb hw h0 hh with ⟨e1,e2⟩|⟨e1,e2⟩
  ·subst e2
   rw[e1,Ob.kX hw h0 (by decide) (by omega)];exact hn
  ·rw[(Ob.bX hw h0 e2).2.2 1 (by decide) (by omega)]
   exact H b (by unfold Qu.ba;rw[e2];simpa using hk)
 ·rw[(Wl.gH h0).1];exact H
theorem aY(hw:aO S cs)(H:QN S n)(hn:0≤n)(rows:List (List Int))(hr:(rows.length:Int)≤n)(aU c o q t:Int):QN (Rf.aY S cs rows aU c o q t).2.2.1 n:=by
 unfold Rf.aY
 split
 ·exact H
 ·rename_i hm
  have hq:q+1≤n:=by
   by_cases e:q≥rows.length
   ·refine absurd ?_ hm
    unfold Rf.may
    repeat' split
    all_goals first |decide|contradiction|(rename_i g;exact absurd e g)
   ·omega
  split
  ·exact H.make hw hn _
  ·have hw1:=hw.make (⟨4,c,5,false⟩:Hd)
   have h1:QN (Ob.make S cs ⟨4,c,5,false⟩).2.2 n:=H.make hw hn _
   generalize(Ob.make S cs ⟨4,c,5,false⟩).2.2=T at*
   generalize(Ob.make S cs ⟨4,c,5,false⟩).1=a at*
   show QN (Ob.put (Ob.put (Ob.put (Ob.put (Ob.put T a (0:Nat) o).2 a (1:Nat) (q+1)).2 a (2:Nat) 0).2 a (3:Nat) t).2 a (4:Nat) (aU+1)).2 n
   have w1:=hw1.put a (0:Nat) o
   have w2:=w1.put a (1:Nat) (q+1)
   have w3:=w2.put a (2:Nat) 0
   have w4:=w3.put a (3:Nat) t
   exact((((h1.put hw1 (.inl (by decide))).put w1 (.inr hq)).put w2 (.inl (by decide))).put w3 (.inl (by decide))).put w4 (.inl (by decide))
theorem final(hw:aO S cs)(H:QN S n)(a:Int):QN (Ob.final S a).2 n:=H.mono fun b hb=>by
 obtain⟨hd,hh,hk⟩:=aM hb
 obtain⟨hd0,h2,e1,e2,e3,_⟩:=Sd.jW hw hh
 have hr:Qu.ba S b=true:=by unfold Qu.ba;rw[h2];simpa using e1▸hk
 exact⟨hr,Sd.kR hw h2 (by decide) (by have:=dm hw h2 (e1▸hk);omega)⟩
theorem eU(hw:aO S cs)(H:QN S n)(rows:List (List Int))(i:Int):QN (Qu.cp S rows i) n:=by
 unfold Qu.cp
 split
 ·exact H.put hw (.inl (by decide))
 ·exact H
end QN
theorem yu(rows:List (List Int))(i:Int):(Qu.dP rows i).length=rows.length:=by
 unfold Qu.dP
 split
 ·exact List.length_set ..
 ·rfl
theorem Kn.bC{S S':aD}{cs:List aS}(H:Kn S cs)(h:∀b,Ob.head S' b=Ob.head S b):Kn S' cs:=H.mono fun a hd hh=>by rw[←h];exact hh
theorem Kn.aY{S:aD}{cs:List aS}(hw:aO S cs)(H:Kn S cs)(rows:List (List Int))(n c o q t:Int):Kn (Rf.aY S cs rows n c o q t).2.2.1 cs:=by
 unfold Rf.aY
 split
 ·exact H
 ·split
  ·exact H.make hw _
  ·exact(H.make hw _).bC fun b=>Wl.iC _ (hw.make _) b
theorem lP{S:aD}{cs:List aS}(hw:aO S cs)(rows:List (List Int))(i b:Int):Ob.head (Qu.cp S rows i) b=Ob.head S b:=by
 unfold Qu.cp
 split
 ·exact bb hw b
 ·rfl
theorem pU{S:aD}{cs:List aS}(hw:aO S cs)(l:List Int)(b:Int):Ob.head (Rf.clear S l).2 b=Ob.head S b:=by
 unfold Rf.clear
 split
 ·exact jT l hw b
 ·rfl
theorem iq{S:aD}{cs:List aS}(hw:aO S cs)(a t b:Int):Ob.head (Rf.aG S a t).2 b=Ob.head S b:=by
 unfold Rf.aG
 split
 ·rfl
 ·show Ob.head (if(Rf.str S a).1=1∧(Ob.get S a 0).1≠0 then(Ob.put S a 3 t).2 else S) b=_
  split
  ·exact bb hw b
  ·rfl
theorem QN.aG{S:aD}{cs:List aS}{n:Int}(hw:aO S cs)(H:QN S n)(a t:Int):QN (Rf.aG S a t).2 n:=by
 unfold Rf.aG
 split
 ·exact H
 ·show QN (if(Rf.str S a).1=1∧(Ob.get S a 0).1≠0 then(Ob.put S a 3 t).2 else S) n
  split
  ·exact H.put hw (.inl (by decide))
  ·exact H
namespace Rx
variable{x:Rt}{N:Int}
abbrev DS(x:Rt):Prop:=x.uo∧x.mX
theorem pH{h:Int}{f:Int→bg}(H:DS x)(hf:jN x.S (gA x h false).1→DS (f (gA x h false).1).2):DS (qp x h f).2:=by
 unfold qp
 split
 ·exact H
 ·exact hf (H.2.gA h false)
theorem zD{h:Int}{f:Int→bg}(H:DS x)(hf:jN x.S (gA x h true).1→DS (f (gA x h true).1).2):DS (Bg x h f).2:=by
 unfold Bg
 split
 ·exact H
 ·exact hf (H.2.gA h true)
theorem kJ(H:DS x){v:Int}(hv:jN x.S v):DS (dO x v):=by
 refine⟨?_,H.2.E7 hv⟩
 unfold dO
 split
 ·exact H.1
 ·exact⟨H.1.qn,H.1.kn,H.1.cl⟩
theorem BI{a j:Int}(h:(fY x a j).2.1=true):uD x.S x.cs a j∧(fY x a j).1=(Ob.get x.S a j).1:=by
 unfold fY at h⊢
 split at h
 ·cases h
 ·split at h
  ·cases h
  ·split at h
   ·cases h
   ·rename_i g1 g2 g3
    rw[if_neg g2,if_neg g3]
    exact⟨.inl (of_decide_eq_true h),rfl⟩
theorem BD{a j:Int}(h0:(fY x a j).2.2=0)(h:(fY x a j).2.1=false):¬uD x.S x.cs a j:=by
 have hr:=jB h0
 unfold fY at h h0
 split at h
 ·rename_i g;rw[g]at h0;cases h0
 ·rename_i g
  rw[g]at h0
  dsimp only at h0
  split at h
  ·rename_i g2;rw[if_pos g2]at h0;cases h0
  ·rename_i g2
   rw[if_neg g2]at h0
   split at h
   ·rename_i g3;rw[if_pos g3]at h0;exact absurd h0 g3
   ·rintro(h'|⟨_,h'⟩)
    ·exact(of_decide_eq_false h) h'
    ·rw[hr]at h';cases h'
theorem Ee(H:DS x)(a b:Int):DS (get x a b).2:=pH H fun _=>by
 split
 ·exact H
 ·rename_i h
  have h1:(fY x (gA x a false).1 b).2.1=true:=by
   cases e:(fY x (gA x a false).1 b).2.1 with
   |true=>rfl
   |false=>exact absurd (.inr e) h
  obtain⟨g1,g2⟩:=BI h1
  exact kJ H (g2▸H.2.fY _ _ g1)
theorem mM(H:DS x){S':aD}(hq:QN S' x.rows.length)(hk:Kn S' x.cs)(hs:Sd S' x.cs)(ho:∀a,Mk.obj x.S a→Mk.obj S' a):DS {x with S:=S'}:=⟨⟨hq,hk,H.1.cl⟩,H.2.heap hs ho⟩
theorem DQ(H:DS x)(I:x.Inv N)(a b c:Int):DS (set x a b c).2:=pH H fun _=>zD H fun ht=>by
 have hw:=I.w.hw
 split
 ·exact H
 ·rename_i h0
  split
  ·exact H
  ·exact mM H (H.1.qn.AG hw (jB (by simpa using h0))) (H.1.kn.put hw _ _ _) (H.2.fY.put hw (.inl ht)) (Rt.mX.dK fun b=>bb hw b)
theorem DI(H:DS x)(I:x.Inv N)(a b c:Int):DS (put x a b c).2:=pH H fun _=>by
 have hw:=I.w.hw
 split
 ·exact H
 ·rename_i h0
  have h0:(fY x (gA x a false).1 b).2.2=0:=by simpa using h0
  split
  ·exact H
  ·rename_i h1
   exact mM H (H.1.qn.AG hw (jB h0)) (H.1.kn.put hw _ _ _) (H.2.fY.put hw (.inr (BD h0 (by simpa using h1)))) (Rt.mX.dK fun b=>bb hw b)
theorem Ce(H:DS x)(a:Int):DS (drop x a).2:=⟨⟨H.1.qn,H.1.kn,H.1.cl⟩,H.2.drop a⟩
theorem Cs(H:DS x)(a b:Int):DS (root x a b).2:=zD H fun h=>⟨⟨H.1.qn,H.1.kn,H.1.cl⟩,H.2.place a h⟩
theorem zg(H:x.mX)(a:Int):jN x.S (fk x.ro a).1:=by
 unfold fk
 split
 ·show jN x.S (x.ro.getD a.toNat 0)
  rw[List.getD_eq_getElem?_getD]
  cases e:x.ro[a.toNat]? with
  |none=>exact .inl rfl
  |some v=>exact H.ro v (List.mem_of_getElem? e)
 ·exact .inl rfl
theorem CQ(H:DS x)(a:Int):DS (take x a).2:=by
 unfold take
 split
 ·exact H
 ·exact kJ H (zg H.2 a)
theorem AQ(H:DS x)(a b:Int):DS (iu x a b).2:=by
 unfold iu
 split
 ·exact H
 ·refine⟨⟨H.1.qn,H.1.kn.dC,fun c hc=> ?_⟩,⟨H.2.fY.dC H.1.kn _,H.2.hs,H.2.ro⟩⟩
  change c∈(Sp.dC x.cs (a,bits b 32)).2.2 at hc
  unfold Sp.dC at hc
  split at hc
  ·exact H.1.cl c hc
  split at hc
  ·exact H.1.cl c hc
  ·rcases List.mem_append.mp hc with h|h
   ·exact H.1.cl c h
   ·rw[List.mem_singleton]at h
    subst h
    have:=pk b 32
    show(bits b 32).length≤1023
    omega
def vi(mk:Rt→bg):Prop:=∀(M:Int) (y:Rt),y.Inv M→DS y→DS (mk y).2∧jN (mk y).2.S (mk y).1.1
theorem ox{x':Rt}{all:Bool}(H:DS x)(I:x.Inv N)(hN:N<2^50)(h:x.fh x' all):DS x':=by
 have:=Rt.EG.Fs ⟨I,H.1,H.2⟩ hN h
 exact⟨this.D,this.S⟩
theorem rB{mk:Rt→bg}(hm:wI mk)(hd:vi mk)(H:DS x)(I:x.Inv N)(hN:N+10<2^49){y:bg}(h:dU mk x y):DS y.2:=by
 unfold dU at h
 split at h
 ·rw[h];exact H
 ·obtain⟨z,hz,rfl⟩:=h
  have key:DS z.2∧jN z.2.S z.1.1:=by
   have I0:=hm _ _ I
   have H0:=hd _ _ I H
   rcases hz with ⟨_,rfl⟩|⟨_,x1,c1,hz⟩
   ·exact H0
   ·have I1:=c1.inv I0
    have H1:=ox H0.1 I0 (by omega) c1
    have I1':=hm _ _ I1
    have H1':=hd _ _ I1 H1
    rcases hz with ⟨_,rfl⟩|⟨_,x2,c2,rfl⟩
    ·exact H1'
    ·exact hd _ _ (c2.inv I1') (ox H1'.1 I1' (by omega) c2)
  split
  ·exact key.1
  ·exact kJ key.1 key.2
theorem Df(h:Hd):vi (mk h):=fun M y Iy H=>by
 have hw:=Iy.w.hw
 refine⟨mM H (H.1.qn.make hw (by omega) h) (H.1.kn.make hw h) (H.2.fY.make hw h) (Rt.mX.pw hw h),?_⟩
 show jN (Ob.make y.S y.cs h).2.2 (Ob.make y.S y.cs h).1
 by_cases h0:(Ob.make y.S y.cs h).2.1=0
 ·exact .inr (by unfold Mk.obj;rw[Ob.eA hw h0];rfl)
 ·rw[(Wl.gH h0).2];exact .inl rfl
theorem D0(a o c:Int):vi (zY a o c):=fun M y Iy H=>by
 have hw:=Iy.w.hw
 refine⟨⟨⟨H.1.qn.aY hw (by omega) y.rows (Int.le_refl _) _ _ _ _ _,H.1.kn.aY hw _ _ _ _ _ _,H.1.cl⟩,H.2.heap (H.2.fY.aY hw _ _ _ _ _ _) (Rt.mX.xf hw _ _ _ _ _ _)⟩,?_⟩
 show jN (Rf.aY y.S y.cs y.rows y.aU a o c y.ck).2.2.1 (Rf.aY y.S y.cs y.rows y.aU a o c y.ck).1
 unfold Rf.aY
 split
 ·exact .inl rfl
 ·split
  ·exact .inl rfl
  ·rename_i h0
   have h0:(Ob.make y.S y.cs ⟨4,a,5,false⟩).2.1=0:=by simpa using h0
   exact .inr (Rt.mX.dK (fun b=>Wl.iC _ (hw.make _) b) _ (by unfold Mk.obj;rw[Ob.eA hw h0];rfl))
theorem wx{kind a:Int}(hk:kind≠4)(H:DS x)(I:x.Inv N)(hN:N+10<2^49){y:bg}(h:eM x kind a y):DS y.2:=by
 unfold eM at h
 split at h
 ·rw[h];exact H
 ·exact rB (l8 hk) (Df _) H I hN h
theorem zw{a:Int}(H:DS x)(I:x.Inv N)(hN:N+10<2^49){y:bg}(h:fZ x a y):DS y.2:=by
 unfold fZ at h
 split at h
 ·exact rB (l8 (show(1:Int)≠4 by decide)) (Df _) H I hN h
 ·rw[h];exact H
theorem Bc{a b c:Int}(H:DS x)(I:x.Inv N)(hN:N+10<2^49){y:bg}(h:eV x a b c y):DS y.2:=by
 unfold eV at h
 split at h
 ·rw[h];exact H
 ·split at h
  ·rw[h];exact H
  ·exact rB (qS _ _ _) (D0 _ _ _) H I hN h
theorem uk(H:DS x)(I:x.Inv N)(a:Int):DS (aG x a).2:=pH H fun _=>by
 have hw:=I.w.hw
 generalize(gA x a false).1=o
 have J:DS {x with S:=(Rf.aG x.S o x.ck).2}:=mM H (H.1.qn.aG hw o x.ck) (H.1.kn.bC (iq hw o x.ck)) (H.2.fY.aG hw o x.ck) (Rt.mX.dK (iq hw o x.ck))
 split
 ·exact H
 ·rename_i hd hh
  split
  ·exact H
  ·rename_i hk
   split
   ·exact H
   ·split
    ·exact H
    ·split
     ·exact H
     ·split
      ·exact J
      ·refine kJ J ?_
       have hk:hd.k=4:=by simpa using hk
       have hr:Qu.ba x.S o=true:=by unfold Qu.ba;rw[hh];simpa using hk
       have h0:=H.2.fY o 0 (.inr ⟨rfl,hr⟩)
       have e:jN x.S (Rf.aG x.S o x.ck).1.1:=by
        unfold Rf.aG
        split
        ·exact .inl rfl
        ·exact h0
       exact e.bC (iq hw o x.ck)
theorem AD(H:DS x)(I:x.Inv N)(a:Int):DS (clear x a).2:=pH H fun _=>by
 have hw:=I.w.hw
 exact mM H (H.1.qn.clear hw _) (H.1.kn.bC (pU hw _)) (H.2.fY.clear hw _) (Rt.mX.dK (pU hw _))
theorem vz(H:DS x)(I:x.Inv N)(a:Int):DS (enqueue x a).2:=pH H fun _=>by
 have hw:=I.w.hw
 refine⟨⟨?_,H.1.kn.bC (iH hw _ _),H.1.cl⟩,H.2.heap (H.2.fY.ct hw _ _) (Rt.mX.dK (iH hw _ _))⟩
 show QN (Rf.ct x.S x.rows (gA x a false).1).2.1 ((Rf.ct x.S x.rows (gA x a false).1).2.2.length:Nat)
 rw[xd]
 exact H.1.qn.ct hw I.w.r.qb (by omega) _ _
theorem BO(H:DS x):DS (jI x).2:=by
 unfold jI
 refine⟨⟨H.1.qn.le ?_,H.1.kn,H.1.cl⟩,⟨H.2.fY,H.2.hs,H.2.ro⟩⟩
 show(x.rows.length:Int)≤((if x.rows.length=8 then x.rows else x.rows++[[]]).length:Nat)
 split
 ·omega
 ·rw[List.length_append];omega
theorem Cr(H:DS x)(I:x.Inv N)(a:Int):DS (eU x a).2:=by
 have hw:=I.w.hw
 have J:DS {x with S:=Qu.cp x.S x.rows a,rows:=Qu.dP x.rows a}:=⟨⟨by
  show QN (Qu.cp x.S x.rows a) ((Qu.dP x.rows a).length:Nat)
  rw[yu];exact H.1.qn.eU hw _ _,H.1.kn.bC (lP hw _ _),H.1.cl⟩,H.2.heap (H.2.fY.eU hw _ _) (Rt.mX.dK (lP hw _ _))⟩
 unfold eU
 split
 ·exact H
 ·split
  ·exact H
  ·rename_i h1 h2
   split
   ·exact H
   ·split
    ·exact J
    ·refine kJ J ?_
     have hh:Qu.has x.rows a=true:=by simpa using h1
     refine .inr (Rt.mX.dK (lP hw _ _) _ ?_)
     unfold Qu.hU
     rw[if_pos hh]
     have hm:=jj hh
     refine Sd.zT (I.w.q.qr _ (List.mem_flatten.mpr ⟨_,hm,?_⟩)).1
     cases e:Qu.row x.rows a with
     |nil=>exact absurd e h2
     |cons y ys=>exact .head _
theorem AR(H:DS x)(I:x.Inv N)(a:Int):DS (final x a).2:=pH H fun _=>by
 have hw:=I.w.hw
 exact⟨⟨H.1.qn.final hw _,H.1.kn.final hw _,H.1.cl⟩,H.2.heap (H.2.fY.final hw _) (fun a h=>(Sd.lQ x.S _ a).mpr h)⟩
theorem DM(H:DS x)(I:x.Inv N)(a b c:Int):DS (run x a b c).2:=by
 have J:DS {x with pe:=Fn.dN x.pe a}:=⟨⟨H.1.qn,H.1.kn,H.1.cl⟩,⟨H.2.fY,H.2.hs,H.2.ro⟩⟩
 have ho:jN x.S (Fn.dT x.pe a).1:=by
  unfold Fn.dT
  split
  ·show jN x.S (x.pe.getD a.toNat 0)
   rw[List.getD_eq_getElem?_getD]
   cases e:x.pe[a.toNat]? with
   |none=>exact .inl rfl
   |some v=>exact .inr (I.w.f.fl v (List.mem_append_right _ (List.mem_of_getElem? e))).obj
  ·exact .inl rfl
 unfold run
 split
 ·exact H
 ·split
  ·exact H
  ·split
   ·exact H
   ·split
    ·exact J
    ·split
     ·exact⟨⟨H.1.qn,H.1.kn,H.1.cl⟩,J.2.place c ho⟩
     ·split
      ·exact kJ J ho
      ·exact J
theorem DG{k a b c:Int}(H:DS x)(I:x.Inv N)(hN:N+10<2^49){y:bg}(h:BH x k a b c y):DS y.2:=by
 rcases rX k with rfl|rfl|rfl|rfl|rfl|rfl|rfl|rfl|rfl|rfl|rfl|rfl|rfl|rfl|rfl|rfl|rfl|rfl|rfl|rfl|rfl|hk
 ·rw[show y=iu x a b from h];exact AQ H a b
 ·exact zw H I hN (show fZ x a y from h)
 ·exact wx (by decide) H I hN (show eM x 2 a y from h)
 ·exact wx (by decide) H I hN (show eM x 3 a y from h)
 ·rw[show y=get x a b from h];exact Ee H a b
 ·rw[show y=set x a b c from h];exact DQ H I a b c
 ·rw[show y=put x a b c from h];exact DI H I a b c
 ·rw[show y=drop x a from h];exact Ce H a
 ·rw[show y=root x a b from h];exact Cs H a b
 ·rw[show y=take x a from h];exact CQ H a
 ·exact Bc H I hN (show eV x a b c y from h)
 ·rw[show y=aG x a from h];exact uk H I a
 ·rw[show y=clear x a from h];exact AD H I a
 ·rw[show y=enqueue x a from h];exact vz H I a
 ·rw[show y=jI x from h];exact BO H
 ·rw[show y=eU x a from h];exact Cr H I a
 ·rw[show y=final x a from h];exact AR H I a
 ·rw[show y=run x a b c from h];exact DM H I a b c
 ·change cU x a y at h
  unfold cU at h
  split at h
  ·rw[h];exact H
  ·obtain⟨x',c1,rfl⟩:=h
   exact ox H I (by omega) c1
 ·rw[show y=tick x a from h]
  unfold tick
  split
  ·exact H
  ·exact⟨⟨H.1.qn,H.1.kn,H.1.cl⟩,⟨H.2.fY,H.2.hs,H.2.ro⟩⟩
 ·rw[show y=count x a from h]
  unfold count
  split<;>exact H
 ·rw[px hk]at h
  rw[h];exact H
end Rx
theorem Rt.Eh{pg aZ stack:Int}(h:1≤pg∧pg≤256):Rx.DS (Rt.new pg aZ stack):=by
 have h0:1≤pg.toNat:=by omega
 have hd:∀a,Ob.head (Sp.bB pg.toNat) a=none:=fun a=>pA h0 a
 have hno:∀a,Qu.ba (Sp.bB pg.toNat) a=true→False:=fun a ha=>by
  obtain⟨hd',hh,_⟩:=aM ha
  rw[hd]at hh;cases hh
 refine⟨⟨fun a ha=>(hno a ha).elim,fun a h' hh=> ?_,fun c hc=>by cases hc⟩,⟨fun a j hl=> ?_,fun t=> .inl ?_,fun v hv=> .inl (List.eq_of_mem_replicate hv)⟩⟩
 ·change Ob.head (Sp.bB pg.toNat) a=some h' at hh
  rw[hd]at hh;cases hh
 ·show jN (Sp.bB pg.toNat) (Ob.get (Sp.bB pg.toNat) a j).1
  rcases hZ (Sp.bB pg.toNat) a j with ⟨h',hh,_⟩|e
  ·rw[hd]at hh;cases hh
  ·rw[e];exact .inl rfl
 ·show(Hn.aQ (List.replicate 512 (0,0)) t).2=0
  unfold Hn.aQ
  rw[List.getD_eq_getElem?_getD,List.getElem?_replicate]
  split<;>rfl
theorem Spec.Ef{P:Program}{f:FuncId}{args:List Value}{r:RK}{B:RT r→List aA→Prop}(h:Gl.Spec ρ P f args [] r B)(A:List aA):Gl.Spec ρ P f args A r fun x M=>∃M',B x M'∧M=M'++A:=fun R w hw=>
 (h (A++R) w hw).mono fun e w' ⟨x,L,h1,h2,h3⟩=>⟨x,L++A,h1,⟨L,h2,rfl⟩,by rw[List.append_assoc];exact h3⟩
theorem Rx.AF{k:Int}(hk:k<1∨21<k)(q b1 b2 b3 b4:Nat):di k (Rx.lS q b1 b2 b3 b4)=none:=by
 unfold Rx.lS
 iterate 21
  unfold di
  rw[if_neg (by dsimp only;omega)]
 rfl
theorem EX(i:Pl)(q:Nat)(x:Rt){N:Int}(I:x.Inv N)(k a b c:Int)(hN:N+10<2^49)(ha:a<9223372036854775808):tD ρ i q k a b c x fun y=>Rx.BH x k a b c y∧y.2.Inv (N+10):=by
 have one:∀{y:bg} {M:Int},sT ρ i q k a b c x y→Rx.BH x k a b c y→y.2.Inv M→M≤N+10→tD ρ i q k a b c x fun y=>Rx.BH x k a b c y∧y.2.Inv (N+10):=fun h h1 h2 h3=>Spec.post h fun r M ⟨e1,e2⟩=>⟨_,⟨h1,h2.le h3⟩,e1,e2⟩
 have hN0:0≤N:=by have:=I.aU;omega
 rcases Rx.rX k with rfl|rfl|rfl|rfl|rfl|rfl|rfl|rfl|rfl|rfl|rfl|rfl|rfl|rfl|rfl|rfl|rfl|rfl|rfl|rfl|rfl|hk
 ·refine one (yR i q x I a b c) rfl (M:=N) ?_ (by omega)
  unfold Rx.iu
  split
  ·exact I
  ·rename_i hb
   exact{I with w:=⟨I.w.hw.dC (by have:=Rx.pk b 32;omega),I.w.q,I.w.r,I.w.f,I.w.ws⟩}
 ·exact zh i q x I a b c hN
 ·exact wi i q x I a b c hN (.inl ⟨rfl,rfl⟩)
 ·exact wi i q x I a b c hN (.inr ⟨rfl,rfl⟩)
 ·exact one (Eo i q x I a b c (by omega)) rfl (Rx.Bp I a b) (by omega)
 ·exact one (Ec i q x I a b c (by omega)) rfl (Rx.Bv I a b c) (by omega)
 ·exact one (DR i q x I a b c (by omega)) rfl (Rx.Bm I a b c) (by omega)
 ·exact one (Cw i q x I a b c (by omega)) rfl (Rx.zt I hN0 a) (by omega)
 ·exact one (Cb i q x I a b c (by omega)) rfl (Rx.yI I a b) (by omega)
 ·exact one (Cz i q x I a b c (by omega)) rfl (Rx.Bb I a) (by omega)
 ·exact y9 i q x I a b c hN
 ·exact one (tK i q x I a b c (by omega)) rfl (Rx.sN I a) (by omega)
 ·exact one (AL i q x I a b c (by omega)) rfl (Rx.xD I a) (by omega)
 ·exact one (vg i q x I a b c (by omega)) rfl (Rx.tE I a) (by omega)
 ·exact one (Bn i q x I a b c (by omega)) rfl (Rx.AV I) (by omega)
 ·exact one (BB i q x I a b c (by omega)) rfl (Rx.Ai I a) (by omega)
 ·exact one (A9 i q x I a b c (by omega)) rfl (Rx.xL I a) (by omega)
 ·exact one (D7 i q x I a b c (by omega)) rfl (Rx.BE I a b c) (by omega)
 ·refine Spec.post (vm i q x I a b c (by omega)) fun r M ⟨y,hy,e1,e2⟩=>⟨y,⟨hy,?_⟩,e1,e2⟩
  unfold Rx.cU at hy
  split at hy
  ·rw[hy];exact I.le (by omega)
  ·obtain⟨x',c1,rfl⟩:=hy
   exact(c1.inv I).le (by omega)
 ·exact one (CT i q x I a b c (by omega) ha) rfl (Rx.zP I ha) (by omega)
 ·exact one (Aw i q x I a b c (by omega)) rfl (Rx.yk I a) (by omega)
 ·refine Spec.post (Spec.Ef (DN q k a b c (Rx.AF hk q)) (i.Q q x)) fun r M ⟨M',⟨e1,e2⟩,e3⟩=>⟨((0,1),x),⟨by rw[Rx.px hk],I.le (by omega)⟩,e1,by rw[e3,e2];rfl⟩
end Go.Proofs.YtfepdmpplahloaaGreat
