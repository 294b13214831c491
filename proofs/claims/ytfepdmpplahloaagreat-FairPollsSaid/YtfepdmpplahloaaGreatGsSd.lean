/- What fields, handles and roots lead to is there. -/
import Derived.Test.YtfepdmpplahloaaGreatGsAft
import Derived.Test.YtfepdmpplahloaaGreatGsDq
set_option linter.unusedSimpArgs false
set_option linter.unusedVariables false
namespace Go.Proofs.YtfepdmpplahloaaGreat
open Go Go.Gl
def jN(S:aD)(v:Int):Prop:=v=0∨Mk.obj S v
theorem jN.mono{S S':aD}{v:Int}(H:jN S v)(h:Mk.obj S v→Mk.obj S' v):jN S' v:=H.imp_right h
theorem jN.bC{S S':aD}{v:Int}(H:jN S v)(h:∀b,Ob.head S' b=Ob.head S b):jN S' v:=H.mono fun g=>by unfold Mk.obj;rw[h];exact g
theorem jN.pos{S:aD}{cs:List aS}(hw:aO S cs){v:Int}(H:jN S v):0≤v:=by
 rcases H with rfl|h
 ·exact Int.le_refl 0
 ·unfold Mk.obj at h
  cases hh:Ob.head S v with
  |none=>rw[hh]at h;cases h
  |some hd=>
   obtain⟨n,w,e,_⟩:=Ob.bt hw hh
   omega
def uD(S:aD)(cs:List aS)(a j:Int):Prop:=j∈Ob.refs S cs a∨(j=0∧Qu.ba S a=true)
theorem uO{S S':aD}{cs:List aS}{a:Int}(h:Ob.head S' a=Ob.head S a):Ob.refs S' cs a=Ob.refs S cs a:=by unfold Ob.refs;rw[h]
theorem nb{S S':aD}{a:Int}(h:Ob.head S' a=Ob.head S a):Qu.ba S' a=Qu.ba S a:=by unfold Qu.ba;rw[h]
theorem uD.bC{S S':aD}{cs:List aS}{a j:Int}(h:Ob.head S' a=Ob.head S a):uD S' cs a j↔uD S cs a j:=by unfold uD;rw[uO h,nb h]
theorem oU{S:aD}{cs:List aS}{a:Int}(h:Qu.ba S a=true):Ob.refs S cs a=[2]:=by
 obtain⟨hd,hh,hk⟩:=aM h
 unfold Ob.refs;rw[hh];dsimp only
 rw[if_neg (by omega),if_neg (by omega),if_pos hk]
theorem ma{S:aD}{cs:List aS}{a j:Int}(h:Qu.ba S a=true):uD S cs a j↔(j=2∨j=0):=by
 unfold uD;rw[oU h,List.mem_singleton];simp[h]
theorem hZ(S:aD)(b j:Int):(∃hd,Ob.head S b=some hd∧0≤j∧j<hd.n)∨(Ob.get S b j).1=0:=by
 cases hb:Ob.head S b with
 |none=>right;unfold Ob.get Ob.fieldAt;rw[hb];rfl
 |some hd=>
  by_cases h:j<0∨j≥hd.n
  ·right
   have e:Ob.fieldAt S b j=(0,1):=by unfold Ob.fieldAt;rw[hb];dsimp only;rw[if_pos h]
   unfold Ob.get;rw[e];rfl
  ·left;exact⟨hd,rfl,by omega,by omega⟩
def Sd(S:aD)(cs:List aS):Prop:=∀a j,uD S cs a j→jN S (Ob.get S a j).1
namespace Sd
variable{S S':aD}{cs:List aS}
theorem put(hw:aO S cs)(H:Sd S cs){a i x:Int}(hx:jN S x∨¬uD S cs a i):Sd (Ob.put S a i x).2 cs:=fun b j hl=>by
 have hh:∀b,Ob.head (Ob.put S a i x).2 b=Ob.head S b:=fun b=>bb hw b
 rw[uD.bC (hh b)]at hl
 rcases hZ (Ob.put S a i x).2 b j with ⟨hd,h1,j0,j1⟩|h0
 ·rw[hh]at h1
  rw[fG hw h1 j0 j1]
  split
  ·rename_i e
   rcases hx with hx|hx
   ·exact hx.bC hh
   ·exact absurd (e.1▸e.2▸hl) hx
  ·exact(H b j hl).bC hh
 ·rw[h0];exact .inl rfl
theorem eJ(l:List Int):∀{S:aD},aO S cs→Sd S cs→Sd (Rf.eJ S l) cs:=by
 induction l with
 |nil=>exact fun _ h=>h
 |cons a l ih=>exact fun hw h=>ih (hw.put a 0 0) (h.put hw (.inl (.inl rfl)))
theorem clear(hw:aO S cs)(H:Sd S cs)(l:List Int):Sd (Rf.clear S l).2 cs:=by
 unfold Rf.clear
 split
 ·exact H.eJ l hw
 ·exact H
theorem zT{a:Int}(h:Qu.ba S a=true):Mk.obj S a:=by
 obtain⟨hd,hh,_⟩:=aM h
 unfold Mk.obj;rw[hh];rfl
theorem push(hw:aO S cs)(H:Sd S cs)(rows:List (List Int))(i a:Int):Sd (Qu.bh S rows i a) cs:=by
 unfold Qu.bh
 split
 ·rename_i h
  rw[Bool.and_eq_true]at h
  have h1:=H.put hw (a:=a) (i:=2) (x:=0) (.inl (.inl rfl))
  split
  ·exact h1
  ·exact h1.put (hw.put _ _ _) (.inl (.inr (by unfold Mk.obj;rw[bb hw];exact zT h.2)))
 ·exact H
theorem ct(hw:aO S cs)(H:Sd S cs)(rows:List (List Int))(a:Int):Sd (Rf.ct S rows a).2.1 cs:=by
 have hw1:=hw.put a 0 0
 have h1:Sd (Ob.put S a 0 0).2 cs:=H.put hw (.inl (.inl rfl))
 unfold Rf.ct
 split
 ·rename_i hr
  split
  ·exact h1
  ·split
   ·exact h1.push hw1 _ _ _
   ·refine(h1.push hw1 _ _ _).put (jf hw1 _ _ _) (.inr fun g=> ?_)
    rw[ma (by rw[nb (jv hw1 _ _ _ _),bI hw];exact hr)]at g
    omega
 ·exact H
theorem bq:∀(l:List Int) {S:aD} {rows:List (List Int)},aO S cs→Sd S cs→Sd (Rf.bq S rows l).1 cs
 |[],_,_,_,h=>h
 |a::l,S,rows,hw,h=>bq l (S:=(Rf.ct S rows a).2.1) (rows:=(Rf.ct S rows a).2.2) (sj hw rows a) (h.ct hw rows a)
theorem eU(hw:aO S cs)(H:Sd S cs)(rows:List (List Int))(i:Int):Sd (Qu.cp S rows i) cs:=by
 unfold Qu.cp
 split
 ·exact H.put hw (.inl (.inl rfl))
 ·exact H
theorem aG(hw:aO S cs)(H:Sd S cs)(a t:Int):Sd (Rf.aG S a t).2 cs:=by
 unfold Rf.aG
 split
 ·exact H
 ·rename_i h0
  show Sd (if(Rf.str S a).1=1∧(Ob.get S a 0).1≠0 then(Ob.put S a 3 t).2 else S) cs
  split
  ·refine H.put hw (.inr fun g=> ?_)
   have hr:Qu.ba S a=true:=by
    cases e:Qu.ba S a with
    |true=>rfl
    |false=>exact absurd (.inl (by rw[Rf.uM,e];decide)) h0
   rw[ma hr]at g;omega
  ·exact H
theorem make(hw:aO S cs)(H:Sd S cs)(h:Hd):Sd (Ob.make S cs h).2.2 cs:=by
 by_cases h0:(Ob.make S cs h).2.1=0
 ·intro b j hl
  rcases hZ (Ob.make S cs h).2.2 b j with ⟨hd,h1,j0,j1⟩|e
  ·rcases Wl.jb hw h0 h1 with ⟨e1,e2⟩|⟨e1,e2⟩
   ·subst e2
    rw[e1,Ob.kX hw h0 j0 j1];exact .inl rfl
   ·obtain⟨k1,_,k3⟩:=Ob.bX hw h0 e2
    rw[k3 j j0 j1]
    refine(H b j ((uD.bC (k1.trans e2.symm)).mp hl)).mono fun g=> ?_
    unfold Mk.obj at g⊢
    cases hv:Ob.head S (Ob.get S b j).1 with
    |none=>rw[hv]at g;cases g
    |some hv'=>rw[(Ob.bX hw h0 hv).1];rfl
  ·rw[e];exact .inl rfl
 ·rw[(Wl.gH h0).1];exact H
theorem lQ(S:aD)(a b:Int):Mk.obj (Ob.final S a).2 b↔Mk.obj S b:=by
 unfold Ob.final
 split
 ·exact Iff.rfl
 ·split
  ·exact Iff.rfl
  ·split
   ·exact Iff.rfl
   ·unfold Mk.obj Ob.head
    dsimp only
    rw[eN (by simp)]
    cases Sp.find S b with
    |none=>exact Iff.rfl
    |some y=>
     dsimp only
     split<;>exact Iff.rfl
theorem qP{S:aD}{a:Int}(h:(Ob.final S a).1≠0):(Ob.final S a).2=S:=by
 unfold Ob.final at h⊢
 cases hh:Ob.head S a with
 |none=>rfl
 |some hd=>
  rw[hh]at h
  dsimp only at h⊢
  split
  ·rfl
  ·rename_i g1
   rw[if_neg g1]at h
   split
   ·rfl
   ·rename_i g2
    rw[if_neg g2]at h
    exact absurd rfl h
theorem jW(hw:aO S cs){a b:Int}{hd':Hd}(h:Ob.head (Ob.final S a).2 b=some hd'):∃hd,Ob.head S b=some hd∧hd'.k=hd.k∧hd'.c=hd.c∧hd'.n=hd.n∧(b≠a→hd'=hd):=by
 by_cases h0:(Ob.final S a).1=0
 ·cases hh:Ob.head S a with
  |none=>unfold Ob.final at h0;rw[hh]at h0;cases h0
  |some g=>
   have hk:g.k≠4:=fun hk=>by unfold Ob.final at h0;rw[hh]at h0;dsimp only at h0;rw[if_pos hk]at h0;cases h0
   have hf:g.f=false:=by
    cases hf:g.f with
    |false=>rfl
    |true=>unfold Ob.final at h0;rw[hh]at h0;dsimp only at h0;rw[if_neg hk,if_pos hf]at h0;cases h0
   obtain⟨_,k2,k3,_⟩:=Ob.fu hw hh hk hf
   by_cases e:b=a
   ·subst e
    rw[k2]at h;injection h with h;subst h
    exact⟨g,hh,rfl,rfl,rfl,fun e=>absurd rfl e⟩
   ·have ho:Mk.obj S b:=(lQ S a b).mp (by unfold Mk.obj;rw[h];rfl)
    unfold Mk.obj at ho
    cases hb:Ob.head S b with
    |none=>rw[hb]at ho;cases ho
    |some hd=>
     rw[k3 _ _ e hb]at h;injection h with h
     exact⟨hd,rfl,by rw[h],by rw[h],by rw[h],fun _=>h.symm⟩
 ·rw[qP h0]at h
  exact⟨hd',h,rfl,rfl,rfl,fun _=>rfl⟩
theorem kR(hw:aO S cs){a b j:Int}{hd:Hd}(h:Ob.head S b=some hd)(j0:0≤j)(j1:j<hd.n):Ob.get (Ob.final S a).2 b j=Ob.get S b j:=by
 by_cases h0:(Ob.final S a).1=0
 ·cases hh:Ob.head S a with
  |none=>unfold Ob.final at h0;rw[hh]at h0;cases h0
  |some g=>
   have hk:g.k≠4:=fun hk=>by unfold Ob.final at h0;rw[hh]at h0;dsimp only at h0;rw[if_pos hk]at h0;cases h0
   have hf:g.f=false:=by
    cases hf:g.f with
    |false=>rfl
    |true=>unfold Ob.final at h0;rw[hh]at h0;dsimp only at h0;rw[if_neg hk,if_pos hf]at h0;cases h0
   exact(Ob.fu hw hh hk hf).2.2.2 _ _ _ h j0 j1
 ·rw[qP h0]
theorem final(hw:aO S cs)(H:Sd S cs)(a:Int):Sd (Ob.final S a).2 cs:=fun b j hl=>by
 rcases hZ (Ob.final S a).2 b j with ⟨hd',h1,j0,j1⟩|e
 ·obtain⟨hd,h2,e1,e2,e3,_⟩:=jW hw h1
  rw[kR hw h2 j0 (by omega)]
  refine(H b j ?_).mono (lQ S a _).mpr
  unfold uD Ob.refs Qu.ba at hl⊢
  rw[h1]at hl
  rw[h2]
  dsimp only at hl⊢
  rw[←e1,←e2,←e3];exact hl
 ·rw[e];exact .inl rfl
theorem cR(hw:aO S cs)(H:Sd S cs){a o q t n:Int}(hr:Qu.ba S a=true)(ho:jN S o):Sd (Rf.cR S a 0 [o,q,0,t,n]) cs:=by
 show Sd (Ob.put (Ob.put (Ob.put (Ob.put (Ob.put S a (0:Nat) o).2 a (1:Nat) q).2 a (2:Nat) 0).2 a (3:Nat) t).2 a (4:Nat) n).2 cs
 have hw1:=hw.put a (0:Nat) o
 have hw2:=hw1.put a (1:Nat) q
 have hw3:=hw2.put a (2:Nat) 0
 have hw4:=hw3.put a (3:Nat) t
 have r1:Qu.ba (Ob.put S a (0:Nat) o).2 a=true:=by rw[bI hw];exact hr
 have r2:Qu.ba (Ob.put (Ob.put S a (0:Nat) o).2 a (1:Nat) q).2 a=true:=by rw[bI hw1];exact r1
 have r3:Qu.ba (Ob.put (Ob.put (Ob.put S a (0:Nat) o).2 a (1:Nat) q).2 a (2:Nat) 0).2 a=true:=by rw[bI hw2];exact r2
 have r4:Qu.ba (Ob.put (Ob.put (Ob.put (Ob.put S a (0:Nat) o).2 a (1:Nat) q).2 a (2:Nat) 0).2 a (3:Nat) t).2 a=true:=by rw[bI hw3];exact r3
 have h1:=H.put hw (a:=a) (i:=(0:Nat)) (x:=o) (.inl ho)
 have h2:=h1.put hw1 (a:=a) (i:=(1:Nat)) (x:=q) (.inr fun g=>by rw[ma r1]at g;omega)
 have h3:=h2.put hw2 (a:=a) (i:=(2:Nat)) (x:=0) (.inl (.inl rfl))
 have h4:=h3.put hw3 (a:=a) (i:=(3:Nat)) (x:=t) (.inr fun g=>by rw[ma r3]at g;omega)
 exact h4.put hw4 (a:=a) (i:=(4:Nat)) (x:=n) (.inr fun g=>by rw[ma r4]at g;omega)
theorem aY(hw:aO S cs)(H:Sd S cs)(rows:List (List Int))(n c o q t:Int):Sd (Rf.aY S cs rows n c o q t).2.2.1 cs:=by
 unfold Rf.aY
 split
 ·exact H
 ·rename_i hm
  split
  ·exact H.make hw _
  ·rename_i h0
   have h0:(Ob.make S cs ⟨4,c,5,false⟩).2.1=0:=by simpa using h0
   have hh:=Ob.eA hw h0
   refine(H.make hw _).cR (hw.make _) (by unfold Qu.ba;rw[hh];rfl) (.inr ?_)
   have ho:(Ob.head S o).isNone=false:=by
    cases e:(Ob.head S o).isNone with
    |false=>rfl
    |true=>
     refine absurd ?_ hm
     unfold Rf.may
     repeat' split
     all_goals first |decide|(rename_i g;exact absurd e g)
   unfold Mk.obj
   cases hv:Ob.head S o with
   |none=>rw[hv]at ho;cases ho
   |some hv'=>rw[(Ob.bX hw h0 hv).1];rfl
theorem dC(hk:Kn S cs)(H:Sd S cs)(c:aS):Sd S (Sp.dC cs c).2.2:=fun a j hl=>H a j<|by
 rcases hl with hl|hl
 ·left
  unfold Ob.refs at hl⊢
  cases hh:Ob.head S a with
  |none=>rw[hh]at hl;exact hl
  |some h=>
   rw[hh]at hl
   dsimp only at hl⊢
   by_cases e:h.k=1
   ·rw[if_pos e]at hl⊢
    obtain⟨d,hd⟩:=hk a h hh e
    obtain⟨g1,g2,g3⟩:=yb hd
    have:Sp.fP (Sp.dC cs c).2.2 h.c=some d:=by
     unfold Sp.dC
     split
     ·exact hd
     split
     ·exact hd
     ·unfold Sp.fP at hd⊢
      rw[if_pos ⟨g1,by rw[List.length_append];omega⟩,List.getElem?_append_left (by omega)];exact g3
    rw[this]at hl
    rw[hd];exact hl
   ·rw[if_neg e]at hl⊢;exact hl
 ·exact .inr hl
end Sd
structure Rt.mX(x:Rt):Prop where
 fY:Sd x.S x.cs
 hs:∀t,jN x.S (Hn.aQ x.hs t).2
 ro:∀v∈x.ro,jN x.S v
theorem Dt{S:aD}{cs:List aS}(hw:aO S cs){x:mY}{ro fs:List Int}{l:List bW}{m2 m3:List Bool}(hC:lD S cs x ro fs l m2 m3){b:Int}(hr:Qu.ba S b=true)(ho:Mk.obj S (Ob.get S b 0).1)(hb:b∉aT S m2 m3 l):Sp.has m3 (Ob.get S b 0).1=true:=by
 obtain⟨hd,hh,hk⟩:=aM hr
 have hc:=Ob.mQ hw hh
 have hc:1≤hd.c∧hd.c≤3:=by
  obtain⟨k,c,n,f⟩:=hd
  unfold Sp.cC at hc
  dsimp only at hk hc⊢
  subst hk
  simp at hc
  omega
 cases e:Sp.has m3 (Ob.get S b 0).1 with
 |true=>rfl
 |false=>
  refine absurd ?_ hb
  unfold aT
  rw[List.mem_append]
  by_cases h3:hd.c=3
  ·right
   exact(jq hw hC.perm).mpr ⟨hd,hh,hk,by rw[h3];simp,ho,by rw[e];simp⟩
  ·left
   refine(jq hw hC.perm).mpr ⟨hd,hh,hk,?_,ho,fun g=> ?_⟩
   ·have:hd.c=1∨hd.c=2:=by omega
    simpa using this
   ·have:=(hC.rJ _).mpr (.inl g)
    rw[e]at this;cases this
theorem oL{S:aD}{cs:List aS}(hw:aO S cs){x:mY}{ro fs:List Int}{l:List bW}{m2 m3:List Bool}(hC:lD S cs x ro fs l m2 m3){a:Int}(ha:a∈aT S m2 m3 l):Qu.ba S a=true:=by
 unfold aT at ha
 rw[List.mem_append]at ha
 rcases ha with h|h<;>obtain⟨hd,hh,hk,_⟩:=(jq hw hC.perm).mp h<;>unfold Qu.ba<;>rw[hh]<;>simpa using hk
theorem nI{S:aD}{cs:List aS}(hw:aO S cs){x:mY}{ro fs:List Int}{l:List bW}{m2 m3:List Bool}(hC:lD S cs x ro fs l m2 m3):(aT S m2 m3 l).Nodup:=by
 unfold aT
 rw[List.nodup_append]
 refine⟨oh hw hC.perm,oh hw hC.perm,fun a ha b hb e=> ?_⟩
 subst e
 obtain⟨hd,hh,_,h1,_⟩:=(jq hw hC.perm).mp ha
 obtain⟨hd',hh',_,h3,_⟩:=(jq hw hC.perm).mp hb
 rw[hh]at hh';injection hh' with hh';subst hh'
 have h3:=List.mem_singleton.mp h3
 rw[h3]at h1;simp at h1
theorem zy{S:aD}:∀{r:List Int},Qu.Lk S r→(∀c∈r,Qu.ba S c=true)→∀{b:Int},b∈r→jN S (Ob.get S b 2).1
 |[],_,_,b,hb=>by cases hb
 |a::r,H,hr,b,hb=>by
  rcases List.mem_cons.mp hb with rfl|hb
  ·rw[H.2.1]
   cases r with
   |nil=>exact .inl rfl
   |cons c r=>exact .inr (Sd.zT (hr c (.tail _ (.head _))))
  ·exact zy H.2.2 (fun c hc=>hr c (.tail _ hc)) hb
theorem Rt.mX.after{x:Rt}{N:Int}(H:x.mX)(D:x.uo)(I:x.Inv N){y:mY}{l:List bW}{m2 m3:List Bool}(hC:lD x.S x.cs y x.roots x.wa l m2 m3):
  (x.after (aT x.S m2 m3 l) (bG x.S m3 (aT x.S m2 m3 l)) (bA x.S m2 x.wa) (Mk.all m3)).mX:=by
 have hw:=I.w.hw
 have W:=I.w.after hC I.n4 I.pq
 have hcln:(aT x.S m2 m3 l).Nodup:=nI hw hC
 have A:=FF hw I.w.q hC (fun a=>(Ob.get x.S a 1).1-1) rfl rfl (fun a ha=>⟨by omega,by
  have:=D.qn a (oL hw hC ((List.mem_filter.mp ha).1));omega⟩) hcln
 have S2:Sd (Rf.bq (Rf.clear x.S (aT x.S m2 m3 l)).2 x.rows (bG x.S m3 (aT x.S m2 m3 l))).1 x.cs:=Sd.bq _ (I.w.clear _).hw (H.fY.clear hw _)
 have live:∀a,a∈x.roots→Mk.obj x.S a→Sp.has m3 a=true:=fun a ha ho=>(hC.rJ a).mpr (.inl ((hC.tw a).mpr (.base (.root ha ho))))
 have posO:∀a,Mk.obj x.S a→0<a:=fun a ha=>by
  have:=(jN.pos hw (.inr ha):0≤a)
  have h0:a≠0:=fun e=>Mk.gF hw (e▸ha)
  omega
 unfold Rt.after
 have hpu:∀a,a∈bG x.S m3 (aT x.S m2 m3 l)→a∈aT x.S m2 m3 l:=fun a ha=>(List.mem_filter.mp ha).1
 have hrow:∀a,a∈bG x.S m3 (aT x.S m2 m3 l)∨a∈x.rows.flatten→a∈(Rf.bq (Rf.clear x.S (aT x.S m2 m3 l)).2 x.rows (bG x.S m3 (aT x.S m2 m3 l))).2.flatten:=fun a ha=>by
  obtain⟨j,hj,h⟩:∃j,j<x.rows.length∧a∈(Rf.bq (Rf.clear x.S (aT x.S m2 m3 l)).2 x.rows (bG x.S m3 (aT x.S m2 m3 l))).2.getD j []:=by
   rcases ha with h|h
   ·have h1:=List.mem_filter.mp h
    have hq:(Ob.get x.S a 1).1>0:=by
     have:=h1.2
     rw[Bool.and_eq_true,decide_eq_true_iff]at this;exact this.2
    have hq2:=D.qn a (oL hw hC h1.1)
    refine⟨((Ob.get x.S a 1).1-1).toNat,by omega,?_⟩
    rw[A.row _ (by omega)]
    exact List.mem_append_right _ (List.mem_filter.mpr ⟨h,by rw[beq_iff_eq];omega⟩)
   ·obtain⟨r,hr,hm⟩:=List.mem_flatten.mp h
    obtain⟨j,hj,e⟩:=List.mem_iff_getElem.mp hr
    refine⟨j,hj,?_⟩
    rw[A.row j hj]
    refine List.mem_append_left _ ?_
    rw[List.getD_eq_getElem?_getD,List.getElem?_eq_getElem hj,e];exact hm
  rw[←A.len]at hj
  rw[List.getD_eq_getElem?_getD,List.getElem?_eq_getElem hj]at h
  exact List.mem_flatten.mpr ⟨_,List.getElem_mem hj,h⟩
 have hclR:∀b,b∈aT x.S m2 m3 l→Qu.ba x.S b=true:=fun b hb=>oL hw hC hb
 have hclN:∀b,Qu.ba x.S b=true→Mk.obj x.S (Ob.get x.S b 0).1→b∉aT x.S m2 m3 l→Sp.has m3 (Ob.get x.S b 0).1=true:=fun b h1 h2 h3=>Dt hw hC h1 h2 h3
 generalize bG x.S m3 (aT x.S m2 m3 l)=pu at*
 generalize aT x.S m2 m3 l=cl at*
 generalize(Rf.bq (Rf.clear x.S cl).2 x.rows pu)=E at*
 obtain⟨T,rows2⟩:=E
 dsimp only at*
 generalize Sw.cz T (Mk.all m3)=S3 at*
 refine⟨fun b j hl=> ?_,fun t=> ?_,fun v hv=> ?_⟩
 ·show jN S3 (Ob.get S3 b j).1
  rcases hZ S3 b j with ⟨hd,h1,j0,j1⟩|e
  ·have hb:Sp.has m3 b=true:=(A.obj b).mp (by unfold Mk.obj;rw[h1];rfl)
   have hh:=A.head b hb
   have h2:Ob.head x.S b=some hd:=hh▸h1
   rw[show uD S3 x.cs b j↔uD x.S x.cs b j from uD.bC hh]at hl
   by_cases c:j≠2∨(b∉pu∧b∉x.rows.flatten)
   ·rw[A.get b hb h2 j0 j1 c]
    split
    ·exact .inl rfl
    ·rename_i c1
     split
     ·rename_i c2
      exfalso
      rcases hl with hl|hl
      ·rw[oU (hclR b (hpu b c2.1))]at hl
       have:=List.mem_singleton.mp hl
       omega
      ·omega
     ·rcases H.fY b j hl with e|ho
      ·exact .inl e
      ·refine .inr ((A.obj _).mpr ?_)
       rcases hl with hl|⟨rfl,hl⟩
       ·exact hC.c3.qt b hb _ (Mk.qm.mpr ⟨j,hl,by rw[Ob.da h2 j0 j1],rfl⟩) ho
       ·exact hclN b hl ho fun g=>c1 ⟨g,rfl⟩
   ·have hj:j=2:=by
     rcases Decidable.em (j=2)with e|e
     ·exact e
     ·exact absurd (.inl e) c
    subst hj
    have hm:b∈rows2.flatten:=hrow b (by
     rcases Decidable.em (b∈pu)with g|g
     ·exact .inl g
     ·rcases Decidable.em (b∈x.rows.flatten)with g'|g'
      ·exact .inr g'
      ·exact absurd (.inr ⟨g,g'⟩) c)
    obtain⟨r,hr,hbr⟩:=List.mem_flatten.mp hm
    exact zy (W.q.lk r hr) (fun c hc=>(W.q.qr c (List.mem_flatten.mpr ⟨r,hr,hc⟩)).1) hbr
  ·rw[e];exact .inl rfl
 ·rcases H.hs t with e|ho
  ·exact .inl e
  ·refine .inr ((A.obj _).mpr (live _ ?_ ho))
   by_cases ht:t<512
   ·exact(nq I.h.len (posO _ ho)).mpr (.inl ⟨t,ht,rfl⟩)
   ·exfalso
    have:Hn.aQ x.hs t=(0,0):=by
     unfold Hn.aQ
     rw[List.getD_eq_getElem?_getD,List.getElem?_eq_none (by rw[I.h.len];omega)];rfl
    have:=posO _ ho
    rw[‹Hn.aQ x.hs t=(0,0)›]at this
    exact absurd this (by decide)
 ·rcases H.ro v hv with e|ho
  ·exact .inl e
  ·exact .inr ((A.obj _).mpr (live _ ((nq I.h.len (posO _ ho)).mpr (.inr (.inl hv))) ho))
end Go.Proofs.YtfepdmpplahloaaGreat
