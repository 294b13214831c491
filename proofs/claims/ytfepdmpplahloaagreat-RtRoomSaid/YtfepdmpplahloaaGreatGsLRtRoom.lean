/- The law RtRoom. -/
import Derived.Test.YtfepdmpplahloaaGreatGsRtC
import Derived.Test.YtfepdmpplahloaaGreatGsTxRtRoom
set_option linter.unusedSimpArgs false
set_option linter.unusedVariables false
namespace Go.Proofs.YtfepdmpplahloaaGreat
open Go Go.Gl
variable{ρ0 ρ:FR}{L L':List Asn}{Post:Value→List Asn→Prop}{T:Tree}
namespace Room
abbrev ro0:List Int:=List.replicate 16 0
def S1:Spc:=(Ob.make (Sp.newSpc 3) [] ⟨3,0,62,false⟩).2.2
def S2:Spc:=(Rf.refer S1 [] [] 0 1 64 (-1) 0).2.2.1
def S3:Spc:=(Rf.clear S2 [128]).2
def S4:Spc:=Sw.frees S3 [64]
abbrev rs(ser:Int)(S:Spc)(l:List Hn.Slot)(rn:Int):Rt:=⟨S,[],[],ser,Hn.Hs l,ro0,[],[],3,1000,2,0,rn⟩
abbrev os:List Ob1:=[⟨64,⟨3,0,62,false⟩,List.replicate 62 0⟩,⟨128,⟨4,1,5,false⟩,[64,0,0,0,1]⟩]
abbrev hl(held:Bool):List Hn.Slot:=if held then[(0,64),(0,128)]else[(1,0),(0,128)]
theorem m1:(Ob.make (Sp.newSpc 3) [] ⟨3,0,62,false⟩).1=64∧(Ob.make (Sp.newSpc 3) [] ⟨3,0,62,false⟩).2.1=0:=⟨by kernel_rfl,by kernel_rfl⟩
theorem m2:(Rf.refer S1 [] [] 0 1 64 (-1) 0).1=128∧(Rf.refer S1 [] [] 0 1 64 (-1) 0).2.1=0∧(Rf.refer S1 [] [] 0 1 64 (-1) 0).2.2.2=1:=⟨by kernel_rfl,by kernel_rfl,by kernel_rfl⟩
theorem e2:Sp.each S2=[64,128]:=by kernel_rfl
theorem e3:Sp.each S3=[64,128]:=by kernel_rfl
theorem h64:Ob.head S2 64=some ⟨3,0,62,false⟩:=by kernel_rfl
theorem h128:Ob.head S2 128=some ⟨4,1,5,false⟩:=by kernel_rfl
theorem g64:(List.range 62).all (fun j=>Ob.get S2 64 j==(0,0))=true:=by kernel_rfl
theorem g128:(List.range 5).all (fun j=>Ob.get S2 128 j==(([64,0,0,0,1]:List Int).getD j 0,0))=true:=by kernel_rfl
theorem full:(List.range 24).all (fun n=>(Ob.make S2 [] ⟨3,0,40+(n:Int),false⟩).2.1==3)=true:=by kernel_rfl
theorem room:(List.range 24).all (fun n=>((Ob.make S4 [] ⟨3,0,40+(n:Int),false⟩).1==64)&&((Ob.make S4 [] ⟨3,0,40+(n:Int),false⟩).2.1==0)&&(Ob.head (Ob.make S4 [] ⟨3,0,40+(n:Int),false⟩).2.2 128==some ⟨4,1,5,false⟩)&&(Ob.get (Ob.make S4 [] ⟨3,0,40+(n:Int),false⟩).2.2 128 0==(0,0)))=true:=by kernel_rfl
structure Fx(S S':Spc):Prop where
 e2:Sp.each S=[64,128]
 e3:Sp.each (Rf.clear S [128]).2=[64,128]
 h64:Ob.head S 64=some ⟨3,0,62,false⟩
 h128:Ob.head S 128=some ⟨4,1,5,false⟩
 g64:∀j:Nat,j<62→Ob.get S 64 j=(0,0)
 g128:∀j:Nat,j<5→Ob.get S 128 j=(([64,0,0,0,1]:List Int).getD j 0,0)
 sw:Sw.frees (Rf.clear S [128]).2 [64]=S'
 full:∀n:Nat,n<24→(Ob.make S [] ⟨3,0,40+(n:Int),false⟩).2.1=3
 room:∀n:Nat,n<24→(Ob.make S' [] ⟨3,0,40+(n:Int),false⟩).1=64∧(Ob.make S' [] ⟨3,0,40+(n:Int),false⟩).2.1=0∧Ob.head (Ob.make S' [] ⟨3,0,40+(n:Int),false⟩).2.2 128=some ⟨4,1,5,false⟩∧Ob.get (Ob.make S' [] ⟨3,0,40+(n:Int),false⟩).2.2 128 0=(0,0)
theorem fx:Fx S2 S4:=⟨e2,e3,h64,h128,fun j h=>eq_of_beq (List.all_eq_true.mp g64 j (List.mem_range.mpr h)),fun j h=>eq_of_beq (List.all_eq_true.mp g128 j (List.mem_range.mpr h)),rfl,
 fun n h=>eq_of_beq (List.all_eq_true.mp full n (List.mem_range.mpr h)),fun n h=>by
  have:=List.all_eq_true.mp room n (List.mem_range.mpr h)
  simp only[Bool.and_eq_true,beq_iff_eq]at this
  exact⟨this.1.1.1,this.1.1.2,this.1.2,this.2⟩⟩
variable{S S':Spc}(F:Fx S S')
include F
theorem bo(hw:HWf S []):Bo S [] os:=by
 refine⟨hw,by rw[F.e2];exact .refl _,fun o ho=> ?_,fun o ho=> ?_,fun o ho j hj=> ?_⟩
 all_goals(simp only[List.mem_cons,List.not_mem_nil,or_false]at ho;rcases ho with rfl|rfl)
 ·exact F.h64
 ·exact F.h128
 ·exact List.length_replicate
 ·rfl
 ·have hj:j<62:=by have:(j:Int)<62:=hj;omega
  show Ob.get S 64 j=_
  rw[F.g64 j hj]
  show(_:Int×Int)=((List.replicate 62 (0:Int)).getD j 0,0)
  rw[List.getD_eq_getElem?_getD,List.getElem?_replicate,if_pos hj];rfl
 ·have hj:j<5:=by have:(j:Int)<5:=hj;omega
  exact F.g128 j hj
omit F in
theorem keep0(f r:Int):Sf.keep 0 0 f r=true:=by
 have h:∀n,0≤Sf.none n:=fun n=>by unfold Sf.none;split<;>omega
 unfold Sf.keep Sf.limit
 refine decide_eq_true ?_
 have:=Int.mul_nonneg (h f) (h r)
 show(0:Int)≤_
 split<;>omega
omit F in
theorem roots{held:Bool}{rn:Int}{b:Int}(hb:0<b):b∈(rs 1 S (hl held) rn).roots↔(b=128∨(held=true∧b=64)):=by
 have hl:(hl held).length≤512:=by cases held<;>decide
 have:b∈(RZ [] [] 1 S (Room.hl held) ro0 [] [] 0 rn).roots↔_:=z_roots hl hb
 refine this.trans ?_
 constructor
 ·rintro(⟨e,he,g⟩|g|⟨r,hr,_⟩|g)
  ·cases held
   ·change e∈[((1:Int),(0:Int)),(0,128)]at he
    simp only[List.mem_cons,List.not_mem_nil,or_false]at he
    rcases he with rfl|rfl
    ·change(0:Int)=b at g;omega
    ·exact .inl g.symm
   ·change e∈[((0:Int),(64:Int)),(0,128)]at he
    simp only[List.mem_cons,List.not_mem_nil,or_false]at he
    rcases he with rfl|rfl
    ·exact .inr ⟨rfl,g.symm⟩
    ·exact .inl g.symm
  ·have:=List.eq_of_mem_replicate g;omega
  ·cases hr
  ·cases g
 ·rintro(rfl|⟨rfl,rfl⟩)
  ·exact .inl ⟨(0,128),by cases held<;>exact List.mem_cons_of_mem _ (List.mem_singleton.mpr rfl),rfl⟩
  ·exact .inl ⟨(0,64),List.mem_cons_self,rfl⟩
theorem coll{held all:Bool}{rn N:Int}(I:(rs 1 S (hl held) rn).Inv N){x':Rt}(h:(rs 1 S (hl held) rn).CollR x' all):x'=rs 1 (if held=true∨all=false then S else S') (hl held) (rn+1):=by
 have hw:HWf S []:=I.w.hw
 have H:=bo F hw
 have hm:∀o∈os,o=⟨64,⟨3,0,62,false⟩,List.replicate 62 0⟩∨o=⟨128,⟨4,1,5,false⟩,[64,0,0,0,1]⟩:=fun o ho=>by
  cases ho with
  |head=>exact .inl rfl
  |tail _ h=>
   cases h with
   |head=>exact .inr rfl
   |tail _ h=>cases h
 have D:(rs 1 S (hl held) rn).InvD:=bo_invd H rfl (fun o ho=>by
  rcases hm o ho with rfl|rfl<;>decide) (fun o ho hk=>by
  rcases hm o ho with rfl|rfl
  ·exact absurd hk (by decide)
  ·exact Int.le_refl 0)
 have hf:Fl.Flat os:=⟨fun o ho=>by rcases hm o ho with rfl|rfl<;>decide,fun o ho hk o' ho' e=>by
  rcases hm o ho with rfl|rfl
  ·exact absurd hk (by decide)
  ·rcases hm o' ho' with rfl|rfl
   ·rfl
   ·exact absurd e (by decide)⟩
 obtain⟨l,m2,m3,cl,pu,pn,C⟩:=h.cf I D
 obtain⟨g2,g3⟩:=Fl.marks C H hf
 have oa:Mk.obj S 64:=by unfold Mk.obj;rw[F.h64];rfl
 have ob:Mk.obj S 128:=by unfold Mk.obj;rw[F.h128];rfl
 have mb:Sp.has m2 128=true:=(g2 128).mpr ⟨ob,.inl ((roots (by decide)).mpr (.inl rfl))⟩
 have ma:Sp.has m2 64=true↔(held=true∨all=false):=by
  rw[g2]
  constructor
  ·rintro⟨_,g|⟨o,ho,k,_⟩⟩
   ·rcases(roots (by decide)).mp g with g|g
    ·exact absurd g (by decide)
    ·exact .inl g.1
   ·exact .inr k.all
  ·rintro(g|g)
   ·exact⟨oa,.inl ((roots (by decide)).mpr (.inr ⟨g,rfl⟩))⟩
   ·exact⟨oa,.inr ⟨⟨128,⟨4,1,5,false⟩,[64,0,0,0,1]⟩,by simp,⟨rfl,rfl,g,(roots (by decide)).mpr (.inl rfl),keep0 _ _⟩,rfl⟩⟩
 have m23:∀b,Sp.has m3 b=true↔Sp.has m2 b=true:=fun b=>by
  rw[g3]
  exact⟨fun g=>g.elim id (fun g=>by cases g.1),.inl⟩
 have hcl:∀b,b∈cl↔(b=128∧¬(held=true∨all=false)):=fun b=>by
  rw[C.mcl]
  constructor
  ·rintro⟨hh,h1,h2,_,h4⟩
   change Ob.head S b=_ at h1
   obtain⟨o,ho,rfl⟩:=H.obj.mp (show Mk.obj S b by unfold Mk.obj;rw[h1];rfl)
   rcases hm o ho with rfl|rfl
   ·change Ob.head S 64=_ at h1
    rw[F.h64]at h1
    injection h1 with h1
    subst h1
    exact absurd h2 (by decide)
   ·change Ob.head S 128=_ at h1
    rw[F.h128]at h1
    injection h1 with h1
    subst h1
    change¬Sp.has (if(1:Int)=3 then m3 else m2) (Ob.get S 128 0).1=true at h4
    rw[if_neg (by decide),show Ob.get S 128 0=(64,0)from F.g128 0 (by decide),ma]at h4
    exact⟨rfl,h4⟩
  ·rintro⟨rfl,h4⟩
   refine⟨_,F.h128,rfl,?_,?_⟩
   ·show Mk.obj S (Ob.get S 128 0).1
    rw[show Ob.get S 128 0=(64,0)from F.g128 0 (by decide)];exact oa
   ·show¬Sp.has (if(1:Int)=3 then m3 else m2) (Ob.get S 128 0).1=true
    rw[if_neg (by decide),show Ob.get S 128 0=(64,0)from F.g128 0 (by decide),ma];exact h4
 have hpu:pu=[]:=no_mem fun b hb=>by
  obtain⟨h1,_,h3⟩:=(C.mpu b).mp hb
  obtain⟨rfl,_⟩:=(hcl b).mp h1
  change(Ob.get S 128 1).1>0 at h3
  rw[show Ob.get S 128 1=(0,0)from F.g128 1 (by decide)]at h3
  exact absurd h3 (by decide)
 have hpn:pn=[]:=no_mem fun b hb=>by
  have:=((C.mpn b).mp hb).1
  cases this
 have ex:=C.eq
 have eS:=C.eS
 have eR:=C.eR
 rw[hpu]at eS eR
 rw[hpn,eR,eS]at ex
 refine ex.trans ?_
 show rs 1 (Sw.sweep (Rf.clear S cl).2 (Mk.all m3)) (hl held) (rn+1)=_
 congr 1
 by_cases g:held=true∨all=false
 ·rw[if_pos g,show cl=[]from no_mem fun b hb=>((hcl b).mp hb).2 g]
  show Sw.frees S ((Sp.each S).filter fun a=>decide (a∉Mk.all m3))=S
  rw[F.e2,List.filter_cons_of_neg (by simp only[decide_eq_true_iff,Mk.mem_all,m23];exact fun q=>q (ma.mpr g)),List.filter_cons_of_neg (by simp only[decide_eq_true_iff,Mk.mem_all,m23];exact fun q=>q mb)];rfl
 ·rw[if_neg g,show cl=[128]from nodup_one C.nd fun b=>by rw[hcl];exact⟨fun q=>q.1,fun q=>⟨q,g⟩⟩]
  show Sw.frees (Rf.clear S [128]).2 ((Sp.each (Rf.clear S [128]).2).filter fun a=>decide (a∉Mk.all m3))=S'
  rw[F.e3,List.filter_cons_of_pos (by simp only[decide_eq_true_iff,Mk.mem_all,m23];exact fun q=>g (ma.mp q)),List.filter_cons_of_neg (by simp only[decide_eq_true_iff,Mk.mem_all,m23];exact fun q=>q mb)];exact F.sw
omit F in
theorem made{mk:Rt→Ans2}{S S1:Spc}{l:List Hn.Slot}{s0 s1 rn a:Int}(hl:∀e∈l,e.2≠0)(hl5:l.length<512){y:Ans2}(hy:Rx.MadeR mk (rs s0 S l rn) y)(hk:mk (rs s0 S l rn)=((a,0),rs s1 S1 l rn))(ha:0<a){hd:Int}(hhd:hd=((l.length:Nat):Int)+512){l':List Hn.Slot}(hl':l++[(0,a)]=l'):
  y=((hd,0),rs s1 S1 l' rn):=by
 subst hhd hl'
 have hf:Hn.free (Hn.Hs l)≠none:=by rw[Hn.hs_free hl hl5];simp
 have:=Rx.made_ok hy hf (by rw[hk])
 rw[hk]at this
 rw[this]
 obtain⟨g1,g2⟩:=Rx.give_new (x:=rs s1 S1 l rn) (l:=l) rfl hl hl5 (a:=a) ha
 exact Prod.ext g1 g2
omit F in
theorem made_o{h:Hd}{S S1:Spc}{l:List Hn.Slot}{s0 rn a:Int}(hl:∀e∈l,e.2≠0)(hl5:l.length<512){y:Ans2}(hy:Rx.MadeR (Rx.mk h) (rs s0 S l rn) y)(k1:(Ob.make S [] h).1=a)(k2:(Ob.make S [] h).2.1=0)(k3:(Ob.make S [] h).2.2=S1)(ha:0<a){hd:Int}(hhd:hd=((l.length:Nat):Int)+512){l':List Hn.Slot}(hl':l++[(0,a)]=l'):
  y=((hd,0),rs s0 S1 l' rn):=
 made hl hl5 hy (by
  show(((Ob.make S [] h).1,(Ob.make S [] h).2.1),rs s0 (Ob.make S [] h).2.2 l rn)=_
  rw[k1,k2,k3]) ha hhd hl'
omit F in
theorem made_r{S S1:Spc}{l:List Hn.Slot}{s0 s1 rn a o c:Int}{w:Int}(hl:∀e∈l,e.2≠0)(hl5:l.length<512){y:Ans2}(hy:Rx.MadeR (Rx.rmk w o c) (rs s0 S l rn) y)(k1:(Rf.refer S [] [] s0 w o c 0).1=a)(k2:(Rf.refer S [] [] s0 w o c 0).2.1=0)(k3:(Rf.refer S [] [] s0 w o c 0).2.2.1=S1)(k4:(Rf.refer S [] [] s0 w o c 0).2.2.2=s1)(ha:0<a){hd:Int}(hhd:hd=((l.length:Nat):Int)+512){l':List Hn.Slot}(hl':l++[(0,a)]=l'):
  y=((hd,0),rs s1 S1 l' rn):=
 made hl hl5 hy (by
  show(((Rf.refer S [] [] s0 w o c 0).1,(Rf.refer S [] [] s0 w o c 0).2.1),rs (Rf.refer S [] [] s0 w o c 0).2.2.2 (Rf.refer S [] [] s0 w o c 0).2.2.1 l rn)=_
  rw[k1,k2,k3,k4]) ha hhd hl'
omit F in
theorem z_o(i:Pl)(q:Nat){S S1:Spc}{l:List Hn.Slot}{s0 rn a N:Int}(I:(rs s0 S l rn).Inv N)(hN:N+10<2^49)(hl:∀e∈l,e.2≠0)(hl5:l.length<512){n:Int}(hn:0≤n∧n≤1023)(k1:(Ob.make S [] ⟨3,0,n,false⟩).1=a)(k2:(Ob.make S [] ⟨3,0,n,false⟩).2.1=0)(k3:(Ob.make S [] ⟨3,0,n,false⟩).2.2=S1)(ha:0<a){hd:Int}(hhd:hd=((l.length:Nat):Int)+512){l':List Hn.Slot}(hl':l++[(0,a)]=l'):
  Gl.Spec ρ Tryz.prog 16 [.pointer (some ⟨q,0,none⟩),opV 4 n 0 0] (i.Q q (rs s0 S l rn)) G2 fun r M=>r=((0:Int),hd,())∧(rs s0 S1 l' rn).Inv (N+10)∧M=i.Q q (rs s0 S1 l' rn):=by
 refine Spec.post (op_list i q _ I n 0 0 hN (.inr ⟨rfl,rfl⟩)) fun r M hh=> ?_
 obtain⟨y,⟨hy,Iy⟩,rfl,rfl⟩:=hh
 unfold Rx.listR at hy
 rw[if_neg (by omega)]at hy
 have:=made_o hl hl5 hy k1 k2 k3 ha hhd hl'
 subst this
 exact⟨rfl,Iy,rfl⟩
omit F in
theorem z_r(i:Pl)(q:Nat){S S1:Spc}{l:List Hn.Slot}{s0 s1 rn a N o h:Int}(I:(rs s0 S l rn).Inv N)(hN:N+10<2^49)(hl:∀e∈l,e.2≠0)(hl5:l.length<512)(hh:Hn.held (Hn.Hs l) h=(o,0))(k1:(Rf.refer S [] [] s0 1 o (-1) 0).1=a)(k2:(Rf.refer S [] [] s0 1 o (-1) 0).2.1=0)(k3:(Rf.refer S [] [] s0 1 o (-1) 0).2.2.1=S1)(k4:(Rf.refer S [] [] s0 1 o (-1) 0).2.2.2=s1)(ha:0<a){hd:Int}(hhd:hd=((l.length:Nat):Int)+512){l':List Hn.Slot}(hl':l++[(0,a)]=l'):
  Gl.Spec ρ Tryz.prog 16 [.pointer (some ⟨q,0,none⟩),opV 11 1 h (-1)] (i.Q q (rs s0 S l rn)) G2 fun r M=>r=((0:Int),hd,())∧(rs s1 S1 l' rn).Inv (N+10)∧M=i.Q q (rs s1 S1 l' rn):=by
 refine Spec.post (op_refer i q _ I 1 h (-1) hN) fun r M hx=> ?_
 obtain⟨y,⟨hy,Iy⟩,rfl,rfl⟩:=hx
 have e1:Rx.hld (rs s0 S l rn) h false=(o,0):=by
  unfold Rx.hld
  rw[if_neg (show¬(false=true∧h=0)from fun g=>by cases g.1)];exact hh
 unfold Rx.referR at hy
 rw[e1,if_neg (fun g=>g rfl),if_neg (show¬Rx.refersE (rs s0 S l rn) 1 (-1)≠0 from fun g=>g rfl)]at hy
 have:=made_r hl hl5 hy k1 k2 k3 k4 ha hhd hl'
 subst this
 exact⟨rfl,Iy,rfl⟩
omit F in
theorem twice{S T:Spc}{l:List Hn.Slot}{h:Hd}{N:Int}(hf:Hn.free (Hn.Hs l)≠none)(h3:(Ob.make S [] h).2.1=3)
  (hc:∀(rn:Int) (x':Rt) (all:Bool) (M:Int),(rs 1 S l rn).Inv M→(rs 1 S l rn).CollR x' all→x'=rs 1 (if all=false then S else T) l (rn+1)) (I:(rs 1 S l 0).Inv N) {y:Ans2} (hy:Rx.MadeR (Rx.mk h) (rs 1 S l 0) y):
  y=if(Ob.make T [] h).2.1≠0 then((0,(Ob.make T [] h).2.1),rs 1 (Ob.make T [] h).2.2 l 2)else(Rx.giveR (rs 1 (Ob.make T [] h).2.2 l 2) (Ob.make T [] h).1,Rx.giveS (rs 1 (Ob.make T [] h).2.2 l 2) (Ob.make T [] h).1):=by
 unfold Rx.MadeR at hy
 rw[if_neg (show¬Hn.free (rs 1 S l 0).hs=none from hf)]at hy
 have em:∀rn,Rx.mk h (rs 1 S l rn)=((0,3),rs 1 S l rn):=fun rn=>by
  obtain⟨g1,g2⟩:=Wl.make_err (S:=S) (cs:=[]) (h:=h) (by rw[h3];decide)
  show(((Ob.make S [] h).1,(Ob.make S [] h).2.1),rs 1 (Ob.make S [] h).2.2 l rn)=_
  rw[g1,g2,h3]
 obtain⟨z,hz,rfl⟩:=hy
 rcases hz with ⟨g,_⟩|⟨_,x1,c1,hz⟩
 ·rw[em]at g;exact absurd rfl g
 ·rw[em]at c1
  have I1:=c1.inv I
  obtain rfl:=hc 0 x1 false _ I c1
  rw[if_pos rfl]at hz I1
  rcases hz with ⟨g,_⟩|⟨_,x2,c2,rfl⟩
  ·rw[em]at g;exact absurd rfl g
  ·rw[em]at c2
   obtain rfl:=hc (0+1) x2 true _ I1 c2
   rw[if_neg (show¬true=false by decide)]
   rfl
omit F in
theorem ref_rs{S:Spc}{l:List Hn.Slot}{h o v:Int}(hh:Hn.held (Hn.Hs l) h=(o,0))(h1:Ob.head S o=some ⟨4,1,5,false⟩)(hg:Ob.get S o 0=(v,0))(hv:v≠0)(hf:Hn.free (Hn.Hs l)≠none):(Rx.referent (rs 1 S l 2) h).1=Rx.giveR (rs 1 (Ob.put S o 3 0).2 l 2) v:=by
 rw[Rx.referent_is (x:=rs 1 S l 2) (v:=v) hh h1 rfl (by decide) hg hv hf,if_pos rfl]
omit F in
theorem give_rs{S:Spc}{l:List Hn.Slot}{j:Nat}{t a:Int}(hj:l[j]? =some (t,0))(h:∀i,i<j→(l.getD i (0,0)).2≠0)(hl:l.length≤512)(ha:0<a){n:Int}(hn:(j:Int)+512*(t+1)=n){l':List Hn.Slot}(hl':l.set j (t,a)=l'):(Rx.giveR (rs 1 S l 2) a,Rx.giveS (rs 1 S l 2) a)=((n,0),rs 1 S l' 2):=by
 subst hn hl'
 obtain⟨g1,g2⟩:=Rx.give_at (x:=rs 1 S l 2) (l:=l) (j:=j) (t:=t) rfl hj h hl ha
 exact Prod.ext g1 g2
theorem z_x(i:Pl)(q:Nat){held:Bool}{N:Int}(I:(rs 1 S (hl held) 0).Inv N)(hN:N+10<2^49){n:Nat}(hn:n<24):
  Gl.Spec ρ Tryz.prog 16 [.pointer (some ⟨q,0,none⟩),opV 4 (40+(n:Int)) 0 0] (i.Q q (rs 1 S (hl held) 0)) G2
  fun r M=>∃(x:Rt) (v:Int),r=(if held=true then((3:Int),(0:Int),())else((0:Int),(1024:Int),()))∧x.Inv (N+10)∧x.rn=2∧(Rx.referent x 513).1=(v,0)∧(v=0↔held=false)∧M=i.Q q x:=by
 refine Spec.post (op_list i q _ I (40+(n:Int)) 0 0 hN (.inr ⟨rfl,rfl⟩)) fun r M hh=> ?_
 obtain⟨y,⟨hy,Iy⟩,rfl,rfl⟩:=hh
 unfold Rx.listR at hy
 rw[if_neg (by omega)]at hy
 have hf:Hn.free (Hn.Hs (hl held))≠none:=by
  cases held
  ·show Hn.free (Hn.Hs [(1,0),(0,128)])≠none
   rw[Hn.hs_free' (l:=[(1,0),(0,128)]) (j:=0) (t:=1) rfl (fun i h=>by omega) (show 2≤512 by decide)];simp
  ·show Hn.free (Hn.Hs [(0,64),(0,128)])≠none
   rw[Hn.hs_free (l:=[(0,64),(0,128)]) (by decide) (show 2<512 by decide)];simp
 have hy:=twice (T:=if held=true then S else S') hf (F.full n hn) (fun rn x' all M I c=>by
  rw[coll F I c]
  congr 1
  cases held<;>cases all<;>rfl) I hy
 cases held with
 |true=>
  rw[if_pos rfl]at hy
  have g2:=(Wl.make_err (S:=S) (cs:=[]) (h:=⟨3,0,40+(n:Int),false⟩) (by rw[F.full n hn];decide)).1
  rw[if_pos (by rw[F.full n hn];decide),F.full n hn,g2]at hy
  subst hy
  have hh:=Hn.hs_held (l:=[(0,64),(0,128)]) (j:=1) (t:=0) (a:=128) (x:=513) rfl (by decide) (by decide) (show 2≤512 by decide) (by decide)
  have e:=ref_rs hh F.h128 (F.g128 0 (by decide)) (by decide) hf
  obtain⟨g1,_⟩:=Rx.give_new (x:=rs 1 (Ob.put S 128 3 0).2 [(0,64),(0,128)] 2) (l:=[(0,64),(0,128)]) rfl (by decide) (show 2<512 by decide) (a:=64) (by decide)
  rw[show(((([(0,64),(0,128)]:List Hn.Slot).length:Nat):Int)+512)=514 by decide]at g1
  refine⟨rs 1 S [(0,64),(0,128)] 2,514,rfl,Iy,rfl,e.trans g1,by decide,rfl⟩
 |false=>
  rw[if_neg (show¬false=true by decide)]at hy
  obtain⟨k1,k2,k3,k4⟩:=F.room n hn
  rw[if_neg (by rw[k2];decide),k1]at hy
  generalize(Ob.make S' [] ⟨3,0,40+(n:Int),false⟩).2.2=S5 at*
  rw[show Room.hl false=[(1,0),(0,128)]from rfl,give_rs (l:=[(1,0),(0,128)]) (j:=0) (t:=1) rfl (fun i h=>by omega) (show 2≤512 by decide) (by decide) (n:=1024) (by decide) (l':=[(1,64),(0,128)]) rfl]at hy
  subst hy
  have hh:=Hn.hs_held (l:=[(1,64),(0,128)]) (j:=1) (t:=0) (a:=128) (x:=513) rfl (by decide) (by decide) (show 2≤512 by decide) (by decide)
  have e:=Rx.referent_zero (x:=rs 1 S5 [(1,64),(0,128)] 2) hh k3 rfl k4
  exact⟨rs 1 S5 [(1,64),(0,128)] 2,0,rfl,Iy,rfl,by rw[e],by decide,rfl⟩
end Room
theorem law_rtroom(soft:Bool)(n0:Int)(hn:0≤n0∧n0<65536):Gl.Spec ρ Tryz.prog 6 [.bool soft,.int .u16 n0] [] RB fun r M=>r=true∧M=[]:=by
 refine Gl.Spec.of (fun Q w h=>F.gloaminglaw21.RtRoom.calls soft n0 h) fun R=> ?_
 unfold F.gloaminglaw21.RtRoom
 rw[wrap64 (n:=n0) (by omega) (by omega),Int.tmod_eq_emod_of_nonneg hn.1,wrap64 (n:=40+n0%24) (by omega) (by omega)]
 obtain⟨n,en,hn24⟩:∃n:Nat,n0%24=(n:Int)∧n<24:=⟨(n0%24).toNat,by omega,by omega⟩
 rw[en]
 refine en_call (rt_new 3 1000 2 (by decide)) .nil ?_
 rintro _ _ ⟨i,q,rfl,rfl⟩
 have er:Rt.new 3 1000 2=Room.rs 0 (Sp.newSpc 3) [] 0:=by
  unfold Rt.new
  rw[Hn.hs_new];rfl
 have I0:(Rt.new 3 1000 2).Inv 0:=Rt.Inv.new (by decide) (by decide)
 obtain⟨k1,k2⟩:=Room.m1
 have kS1:(Ob.make (Sp.newSpc 3) [] ⟨3,0,62,false⟩).2.2=Room.S1:=rfl
 obtain⟨k3,k4,k5⟩:=Room.m2
 have kS:(Rf.refer Room.S1 [] [] 0 1 64 (-1) 0).2.2.1=Room.S2:=rfl
 have F0:=Room.fx
 rw[er]at I0⊢
 clear er
 generalize Sp.newSpc 3=S0 at*
 generalize Room.S1=S1 at*
 generalize Room.S2=S at*
 generalize Room.S4=S4 at*
 rw[zcAns]
 try simp only[lca,lna]
 refine en_call (law_whole21 i q (Room.rs 0 (S0) [] 0)) tks ?_
 rintro x' M ⟨rfl,rfl⟩
 try simp only[lca,lna]
 refine en_brf rfl ?_
 iterate 1
  refine en_call (law_err _) .nil ?_
  rintro x' M ⟨rfl,rfl⟩
  try simp only[lca,lna]
 refine en_brf rfl ?_
 refine en_call (Room.z_o i q (l:=[]) I0 (by decide) (by simp) (by decide) (n:=62) (by decide) k1 k2 kS1 (by decide) (hd:=512) rfl (l':=[(0,64)]) rfl) tks ?_
 rintro _ _ ⟨rfl,I1,rfl⟩
 clear k1 k2 kS1
 try simp only[lca,lna]
 refine en_nw fun b5=> ?_
 refine en_st (b:=b5) (off:=0) rfl tk (by simp) rfl ?_
 refine en_ld (k:= .int .i64) (b:=b5) (off:=1) (x:=512) (by rw[fa_mk]) tk rfl ?_
 refine en_call (Room.z_r i q (l:=[(0,64)]) I1 (by decide) (by decide) (show 1<512 by decide) (Hn.hs_held (l:=[(0,64)]) (j:=0) (t:=0) (a:=64) (x:=512) rfl (by decide) (by decide) (show 1≤512 by decide) (by decide)) k3 k4 kS k5 (by decide) (hd:=513) rfl (l':=[(0,64),(0,128)]) rfl) tks ?_
 rintro _ _ ⟨rfl,I2,rfl⟩
 clear k3 k4 kS k5
 try simp only[lca,lna]
 refine en_nw fun b8=> ?_
 refine en_st (b:=b8) (off:=0) rfl tk (by simp) rfl ?_
 refine en_drw (en_held [blk b5 [i64 0,i64 512],blk b8 [i64 0,i64 513]] tks ?_)
 refine en_ldS (k:= .int .i64) (b:=b5) (off:=0) (x:=0) (by rw[fa_mk]) tk rfl ?_
 refine en_ldS (k:= .int .i64) (b:=b8) (off:=0) (x:=0) (by rw[fa_mk]) tk rfl ?_
 refine en_err (en_chk tks (en_err ?_))
 refine en_brf (by kernel_rfl) ?_
 refine en_jn (I:=fun _ M=>∃N:Int,(Room.rs 1 S (Room.hl (!soft)) 0).Inv N∧N<2^40∧M.Perm (blk b5 [i64 0,i64 512]::blk b8 [i64 0,i64 513]::i.Q q (Room.rs 1 S (Room.hl (!soft)) 0)++R)) ?_ fun J HJ=> ?_
 ·rintro _ M ⟨N,I,hN,hp⟩
  refine Tr.perm hp ?_
  refine en_need (by decide) ?_
  refine en_call (Room.z_x F0 i q I (by omega) hn24) tks ?_
  rintro _ _ ⟨x,v,rfl,Ix,hrn,hv,hv0,rfl⟩
  try simp only[lca,lna]
  refine en_nw fun b17=> ?_
  refine en_st (b:=b17) (off:=0) rfl tk (by simp) rfl ?_
  refine en_nn ?_
  refine en_ld (k:= .ptr) (b:=q) (off:=0) (x:=some ⟨i.p,0,none⟩) (by rw[fa_mk]) tk rfl ?_
  refine en_call (gc_view i x (Ix.ok (by omega))) tks ?_
  rintro _ _ ⟨so,sh,sr,sq,sf,sp,lv,rfl,_,_,_,rfl⟩
  try simp only[lca,lna]
  refine en_nw fun b21=> ?_
  rw[zcView,hrn]
  refine en_st (b:=b21) (off:=0) rfl tk (by simp) rfl ?_
  refine en_ld (k:= .int .i64) (b:=b8) (off:=1) (x:=513) (by rw[fa_mk]) tk rfl ?_
  have hx:Rx.referent x 513=((v,0),(Rx.referent x 513).2):=Prod.ext hv rfl
  refine en_call (hx▸op_referent i q _ Ix 513 0 0 (by omega)) tks ?_
  rintro _ _ ⟨rfl,rfl⟩
  try simp only[lca,lna]
  refine en_nw fun b24=> ?_
  refine en_st (b:=b24) (off:=0) rfl tk (by simp) rfl ?_
  cases soft with
  |true=>
   refine en_brt rfl ?_
   obtain rfl:v=0:=hv0.mpr rfl
   refine en_ld (k:= .int .i64) (b:=b17) (off:=0) (x:=0) (by rw[fa_mk]) tk rfl ?_
   refine en_err (en_brt rfl ?_)
   refine en_ld (k:= .int .i64) (b:=b24) (off:=1) (x:=0) (by rw[fa_mk]) tk rfl ?_
   refine en_brt rfl ?_
   refine en_ld (k:= .int .i64) (b:=b24) (off:=0) (x:=0) (by rw[fa_mk]) tk rfl ?_
   refine en_err (en_brt rfl ?_)
   refine en_ld (k:= .int .i64) (b:=b21) (off:=9) (x:=2) (by rw[fa_mk]) tk rfl ?_
   refine en_brt rfl ?_
   refine en_call (law_awake21) tks ?_
   rintro x' M ⟨rfl,rfl⟩
   try simp only[lca,lna]
   exact en_rets (x:=true) rfl ⟨rfl,rfl⟩ tks ens
  |false=>
   refine en_brf rfl ?_
   have hv1:v≠0:=fun g=>absurd (hv0.mp g) (by decide)
   refine en_ld (k:= .int .i64) (b:=b17) (off:=0) (x:=3) (by rw[fa_mk]) tk rfl ?_
   refine en_err (en_brt rfl ?_)
   refine en_ld (k:= .int .i64) (b:=b17) (off:=1) (x:=0) (by rw[fa_mk]) tk rfl ?_
   refine en_brt rfl ?_
   refine en_ld (k:= .int .i64) (b:=b24) (off:=1) (x:=v) (by rw[fa_mk]) tk rfl ?_
   refine en_brt (by simpa using hv1) ?_
   refine en_ld (k:= .int .i64) (b:=b21) (off:=9) (x:=2) (by rw[fa_mk]) tk rfl ?_
   refine en_brt rfl ?_
   refine en_call (law_awake21) tks ?_
   rintro x' M ⟨rfl,rfl⟩
   try simp only[lca,lna]
   exact en_rets (x:=true) rfl ⟨rfl,rfl⟩ tks ens
 cases soft with
 |false=>exact en_brf rfl (HJ _ _ ⟨_,I2,by decide,Takes.perm tks⟩)
 |true=>
  refine en_brt rfl ?_
  refine en_ld (k:= .int .i64) (b:=b5) (off:=1) (x:=512) (by rw[fa_mk]) tk rfl ?_
  obtain⟨h1,h2⟩:=Hn.hs_drop (l:=[(0,64),(0,128)]) (j:=0) (t:=0) (a:=64) (x:=512) rfl (by decide) (by decide) (show 2≤512 by decide) (by decide)
  have e3:Rx.drop (Room.rs 1 S [(0,64),(0,128)] 0) 512=((0,0),Room.rs 1 S [(1,0),(0,128)] 0):=by
   unfold Rx.drop
   show((0,Hn.dropE (Hn.Hs [(0,64),(0,128)]) 512),({Room.rs 1 S [(0,64),(0,128)] 0 with hs:=Hn.dropS (Hn.Hs [(0,64),(0,128)]) 512}:Rt))=_
   rw[h1,h2];rfl
  have I3:=Rx.drop_inv I2 (by decide) 512
  rw[e3]at I3
  refine en_call (op_drop i q _ I2 512 0 0 (by decide)) tks ?_
  rw[e3]
  rintro _ _ ⟨rfl,rfl⟩
  try simp only[lca,lna]
  exact HJ _ _ ⟨_,I3,by decide,Takes.perm tks⟩
end Go.Proofs.YtfepdmpplahloaaGreat
