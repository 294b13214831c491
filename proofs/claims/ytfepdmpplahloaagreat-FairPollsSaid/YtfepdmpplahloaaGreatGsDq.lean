/- The document's finalizers. -/
import Derived.Test.YtfepdmpplahloaaGreatGsGc3
import Derived.Test.YtfepdmpplahloaaGreatGsRefR
import Derived.Test.YtfepdmpplahloaaGreatGsL20c
import Derived.Test.YtfepdmpplahloaaGreatGsInv2
set_option linter.unusedSimpArgs false
set_option linter.unusedVariables false
namespace Go.Proofs.YtfepdmpplahloaaGreat
open Go Go.Gl
variable{ρ0 ρ:FR}{L L':List aA}{Post:Value→List aA→Prop}{T:Tree}
theorem aI.mn{B:aA}:∀{L M R:List aA},aI L M R→aI (B::L) M (B::R)
 |_,_,_,.nil=> .nil
 |_,_,_,.cons h hs=> .cons (.skip h) hs.mn
end Go.Proofs.YtfepdmpplahloaaGreat
namespace Go.Proofs.YtfepdmpplahloaaGreat
open Go Go.Gl
variable{ρ0 ρ:FR}{L L':List aA}{Post:Value→List aA→Prop}{T:Tree}
def QN(S:aD)(n:Int):Prop:=∀a,Qu.ba S a=true→(Ob.get S a 1).1≤n
namespace QN
variable{S S':aD}{cs:List aS}{n:Int}
theorem le{m:Int}(H:QN S n)(h:n≤m):QN S m:=fun a ha=>by have:=H a ha;omega
theorem mono(H:QN S n)(h:∀a,Qu.ba S' a=true→Qu.ba S a=true∧Ob.get S' a 1=Ob.get S a 1):QN S' n:=fun a ha=>by rw[(h a ha).2];exact H a (h a ha).1
theorem put(hw:aO S cs)(H:QN S n){a i x:Int}(hx:i≠1∨x≤n):QN (Ob.put S a i x).2 n:=fun b hb=>by
 have hr:Qu.ba S b=true:=by rw[bI hw]at hb;exact hb
 rw[bR hw hr (by decide) (by decide)]
 split
 ·rename_i g
  rcases hx with h|h
  ·exact absurd g.2.symm h
  ·exact h
 ·exact H b hr
theorem eJ(l:List Int):∀{S:aD},aO S cs→QN S n→QN (Rf.eJ S l) n:=by
 induction l with
 |nil=>exact fun _ h=>h
 |cons a l ih=>exact fun hw h=>ih (hw.put a 0 0) (h.put hw (.inl (by decide)))
theorem clear(hw:aO S cs)(H:QN S n)(l:List Int):QN (Rf.clear S l).2 n:=by
 unfold Rf.clear
 split
 ·exact H.eJ l hw
 ·exact H
theorem push(hw:aO S cs)(H:QN S n)(rows:List (List Int))(i a:Int):QN (Qu.bh S rows i a) n:=by
 unfold Qu.bh
 split
 ·split
  ·exact H.put hw (.inl (by decide))
  ·exact(H.put hw (.inl (by decide))).put (hw.put _ _ _) (.inl (by decide))
 ·exact H
theorem ct(hw:aO S cs)(hq:QB S)(H:QN S n)(hn:0≤n)(rows:List (List Int))(a:Int):QN (Rf.ct S rows a).2.1 n:=by
 have hw1:=hw.put a 0 0
 have hq1:QB (Ob.put S a 0 0).2:=hq.put hw (.inl (by decide))
 have h1:QN (Ob.put S a 0 0).2 n:=H.put hw (.inl (by decide))
 unfold Rf.ct
 split
 ·split
  ·exact h1
  ·split
   ·exact h1.push hw1 _ _ _
   ·exact(h1.push hw1 _ _ _).put (iM hw1 hq1 _ _ _).1 (.inr (by omega))
 ·exact H
theorem bq(hn:0≤n):∀(l:List Int) {S:aD} {rows:List (List Int)},aO S cs→QB S→NZ rows→QN S n→QN (Rf.bq S rows l).1 n
 |[],_,_,_,_,_,h=>h
 |a::l,S,rows,hw,hq,hz,h=>by
  obtain⟨h1,h2,h3,_⟩:=rI hw hq hz a
  exact bq hn l (S:=(Rf.ct S rows a).2.1) (rows:=(Rf.ct S rows a).2.2) h1 h2 h3 (h.ct hw hq hn rows a)
end QN
theorem qT(S:aD)(rows:List (List Int))(i a:Int):(Qu.cE S rows i a).length=rows.length:=by
 unfold Qu.cE
 split
 ·exact List.length_set ..
 ·rfl
theorem xd(S:aD)(rows:List (List Int))(a:Int):(Rf.ct S rows a).2.2.length=rows.length:=by
 unfold Rf.ct
 split
 ·split
  ·rfl
  ·split
   ·exact qT ..
   ·exact qT ..
 ·rfl
theorem tu:∀(l:List Int) (S:aD) (rows:List (List Int)),(Rf.bq S rows l).2.length=rows.length
 |[],_,_=>rfl
 |a::l,S,rows=>(tu l (Rf.ct S rows a).2.1 (Rf.ct S rows a).2.2).trans (xd S rows a)
theorem Kn.mono{S S':aD}{cs:List aS}(H:Kn S cs)(h:∀a hd,Ob.head S' a=some hd→Ob.head S a=some hd):Kn S' cs:=fun a hd hh hk=>H a hd (h a hd hh) hk
structure Rt.uo(x:Rt):Prop where
 qn:QN x.S x.rows.length
 kn:Kn x.S x.cs
 cl:∀c∈x.cs,c.2.length≤1023
theorem Rt.uo.after{x:Rt}{N:Int}(D:x.uo)(I:x.Inv N)(hN:N<2^50){y:mY}{l:List bW}{m2 m3:List Bool}(hC:lD x.S x.cs y x.roots x.wa l m2 m3):(x.after (aT x.S m2 m3 l) (bG x.S m3 (aT x.S m2 m3 l)) (bA x.S m2 x.wa) (Mk.all m3)).uo:=by
 have hw:=I.w.hw
 have ok:=I.EP hN
 have hz:=wA ok.rows
 have H1:=I.w.clear (aT x.S m2 m3 l)
 have q1:=D.qn.clear hw (aT x.S m2 m3 l)
 have hh1:∀b,Ob.head (Rf.clear x.S (aT x.S m2 m3 l)).2 b=Ob.head x.S b:=fun b=>by
  unfold Rf.clear
  split
  ·exact jT _ hw b
  ·rfl
 unfold Rt.after
 generalize bG x.S m3 (aT x.S m2 m3 l)=pu at*
 generalize(Rf.clear x.S (aT x.S m2 m3 l)).2=S1 at*
 have qb1:QB S1:=H1.r.qb
 obtain⟨e1,_,_⟩:=oC (l:=pu) H1.hw qb1 hz
 have q2:=QN.bq (by omega) pu H1.hw qb1 hz q1
 have hh2:=nJ pu (rows:=x.rows) H1.hw
 have hl:=tu pu S1 x.rows
 have Lf:=Sw.jQ e1 (Mk.all m3)
 have hd3:∀b hd,Ob.head (Sw.cz (Rf.bq S1 x.rows pu).1 (Mk.all m3)) b=some hd→Ob.head (Rf.bq S1 x.rows pu).1 b=some hd:=fun b hd hh=>by
  rw[Lf.head]at hh
  split at hh
  ·cases hh
  ·exact hh
 refine⟨?_,?_,D.cl⟩
 ·show QN (Sw.cz (Rf.bq S1 x.rows pu).1 (Mk.all m3)) ((Rf.bq S1 x.rows pu).2.length:Nat)
  rw[hl]
  refine q2.mono fun b hb=> ?_
  obtain⟨hd,hh,hk⟩:=aM hb
  have hn:=dm Lf.hw hh hk
  refine⟨?_,by rw[Ob.da hh (by decide) (by omega),Ob.da (hd3 b hd hh) (by decide) (by omega),Lf.ws]⟩
  unfold Qu.ba;rw[hd3 b hd hh];simpa using hk
 ·exact D.kn.mono fun a hd hh=>by rw[←hh1,←hh2];exact hd3 a hd hh
end Go.Proofs.YtfepdmpplahloaaGreat
