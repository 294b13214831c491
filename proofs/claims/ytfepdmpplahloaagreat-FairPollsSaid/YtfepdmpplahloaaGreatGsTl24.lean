/- What laws of the runtime go by, where there are references. -/
import Derived.Test.YtfepdmpplahloaaGreatGsFp
import Derived.Test.YtfepdmpplahloaaGreatGsT
set_option linter.unusedSimpArgs false
set_option linter.unusedVariables false
namespace Go.Proofs.YtfepdmpplahloaaGreat
open Go Go.Gl
variable{ρ0 ρ:FR}{L L':List aA}{Post:Value→List aA→Prop}{T:Tree}
theorem sH{e:Int}{K:Int→Tree}(h:Tr ρ0 ρ L (K e) Post):Tr ρ0 ρ L (call Tryz.prog 10 [.int .i64 e] (.one (.l (.int .i64))) K) Post:=by
 refine ae (sf e) .nil ?_
 rintro _ _ ⟨rfl,rfl⟩
 exact h
namespace Rx
variable{x:Rt}{h o:Int}{hd:Hd}
end Rx
namespace Rx
end Rx
section
variable(i:Pl)(q:Nat){N:Int}{cs:List aS}{rows:List (List Int)}{aU:Int}{S:aD}{l:List Hn.Slot}{ro wa pe:List Int}{ck rn:Int}{os:List fT}
end
end Go.Proofs.YtfepdmpplahloaaGreat
namespace Go.Proofs.YtfepdmpplahloaaGreat
open Go Go.Gl
theorem il{α β:Type}{f:α→β}:∀{l:List α},l.Nodup→(∀a∈l,∀b∈l,f a=f b→a=b)→(l.map f).Nodup
 |[],_,_=> .nil
 |a::l,h,hf=>by
  obtain⟨h1,h2⟩:=List.nodup_cons.mp h
  rw[List.map_cons,List.nodup_cons]
  refine⟨fun g=> ?_,il h2 fun a ha b hb=>hf a (.tail _ ha) b (.tail _ hb)⟩
  obtain⟨b,hb,e⟩:=List.mem_map.mp g
  have:=hf b (.tail _ hb) a (.head _) e
  exact h1 (this▸hb)
namespace Fr
theorem lO{x:Rt}(h:Idle x)(a:Int):a∉x.rows.flatten:=by rw[h.1];exact List.not_mem_nil
section
variable{x y:Rt}{out:List Int}{l:List bW}{m2 m3:List Bool}{cl pu pn:List Int}{N:Int}
theorem u0(R:E4 x y out l m2 m3 cl pu pn)(ix:Idle x)(iy:Idle y):y.roots=x.roots:=by
 unfold Rt.roots
 rw[R.hs,R.ro,flatMap_nil ix.1,flatMap_nil iy.1,ix.2,iy.2]
theorem E4.ref(R:E4 x y out l m2 m3 cl pu pn)(Wx:W x N){b:Int}(hb:Sp.has m3 b=true){hd:Hd}(hh:Ob.head x.S b=some hd)(hk:hd.k=4):(Ob.get y.S b 0=if b∈cl then(0,0)else Ob.get x.S b 0)∧Ob.get y.S b 3=Ob.get x.S b 3∧Ob.get y.S b 4=Ob.get x.S b 4∧(Ob.get y.S b 1=if b∈pu then(-1,0)else Ob.get x.S b 1):=by
 have h5:=dm Wx.I.w.hw hh hk
 refine⟨?_,?_,?_,?_⟩
 ·rw[R.get b hb hh (by decide) (by omega) (by decide)];simp
 ·rw[R.get b hb hh (by decide) (by omega) (by decide)];simp
 ·rw[R.get b hb hh (by decide) (by omega) (by decide)];simp
 ·rw[R.get b hb hh (by decide) (by omega) (by decide)];simp
end
inductive eu:Nat→Rt→Rt→List (List Int)→Prop
 |zero {x:Rt}:eu 0 x x []
 |succ {n:Nat} {x y z:Rt} {o:List (List Int)} {out:List Int} (h:eu n x y o) (r:fB y z out):eu (n+1) x z (o++[out])
theorem eu.w{n:Nat}{x y:Rt}{o:List (List Int)}{N:Int}(h:eu n x y o)(H:W x N)(hN:N+n<2^50):W y (N+n):=by
 induction h with
 |zero=>exact⟨H.I.le (by omega),H.D,H.A⟩
 |succ h r ih=>
  have:=r.w (ih H (by omega)) (by omega)
  exact⟨this.I.le (by omega),this.D,this.A⟩
theorem eu.len{n:Nat}{x y:Rt}{o:List (List Int)}(h:eu n x y o):o.length=n:=by
 induction h with
 |zero=>rfl
 |succ h r ih=>rw[List.length_append,ih];rfl
def Ep(x:Rt)(s:List Int):Prop:=∀b,Qu.ba x.S b=true→(Ob.get x.S b 4).1∈s→(Ob.get x.S b 1).1≤0∧b∉x.rows.flatten
theorem fB.DP{x y:Rt}{out s:List Int}{N:Int}(r:fB x y out)(H:W x N)(hN:N<2^50)(P:Ep x s)(hs:s.Nodup):Ep y (s++out)∧(s++out).Nodup:=by
 obtain⟨l,m2,m3,cl,pu,pn,R⟩:=r.rd H
 have Wy:=r.w H hN
 have iy:=r.idle
 obtain⟨q,g1,g2,g3,rfl⟩:=R.out
 have back:∀b,Qu.ba y.S b=true→Sp.has m3 b=true∧Qu.ba x.S b=true∧Ob.get y.S b 4=Ob.get x.S b 4∧(Ob.get y.S b 1=if b∈pu then(-1,0)else Ob.get x.S b 1):=fun b hb=>by
  have hm:=(R.obj b).mp (Sd.zT hb)
  have hr:Qu.ba x.S b=true:=by rw[←nb (R.head b hm)];exact hb
  obtain⟨hd,hh,hk⟩:=aM hr
  obtain⟨_,_,r4,r1⟩:=R.ref H hm hh hk
  exact⟨hm,hr,r4,r1⟩
 have inj:∀a b,Qu.ba x.S a=true→Qu.ba x.S b=true→(Ob.get x.S a 4).1=(Ob.get x.S b 4).1→a=b:=H.I.w.r.inj
 have q1:∀a∈q,(Ob.get x.S a 4).1∉s:=fun a ha hm=>by
  obtain⟨p1,p2⟩:=P a (g3 a ha).2 hm
  rcases(g1 a).mp ha with g|g
  ·exact p2 g
  ·have:=((R.Ek a).mp g).2.2;omega
 refine⟨fun b hb hm=>⟨?_,lO iy b⟩,?_⟩
 ·obtain⟨k1,k2,k3,k4⟩:=back b hb
  rw[k4]
  split
  ·decide
  ·rename_i hn
   rw[k3]at hm
   rcases List.mem_append.mp hm with h|h
   ·exact(P b k2 h).1
   ·obtain⟨a,ha,e⟩:=List.mem_map.mp h
    have:=inj a b (g3 a ha).2 k2 e
    subst this
    rcases(g1 a).mp ha with g|g
    ·rw[(H.I.w.q.qr a g).2];decide
    ·exact absurd g hn
 ·rw[List.nodup_append]
  refine⟨hs,?_,fun a ha b hb e=> ?_⟩
  ·refine il g2 fun a ha b hb e=>inj a b (g3 a ha).2 (g3 b hb).2 e
  ·subst e
   obtain⟨c,hc,rfl⟩:=List.mem_map.mp hb
   exact q1 c hc ha
theorem eu.DP{n:Nat}{x y:Rt}{o:List (List Int)}{N:Int}(h:eu n x y o)(H:W x N)(hN:N+n<2^50):Ep y o.flatten∧o.flatten.Nodup:=by
 induction h with
 |zero=>exact⟨(fun b _ h=>by cases h),.nil⟩
 |succ h r ih=>
  obtain⟨p1,p2⟩:=ih H (by omega)
  have:=r.DP (h.w H (by omega)) (by omega) p1 p2
  rw[List.flatten_append,List.flatten_cons,List.flatten_nil,List.append_nil]
  exact this
end Fr
end Go.Proofs.YtfepdmpplahloaaGreat
namespace Go.Proofs.YtfepdmpplahloaaGreat
open Go Go.Gl
set_option maxRecDepth 100000
variable{Q:Value→World→Prop}{w:World}
def F.bL.wo:Tree:=
 call Tryz.prog 21 [.agg #[.int .i64 4,.int .i64 0,.int .i64 1]] (.many [.l .ptr,.l (.int .i64)]) fun(r1:KTs _)=>
 call Tryz.prog 22 [.pointer r1.1] (.one (.l .bool)) fun(r2:Bool)=>
 br (!r2)
 (ret (.bool false))
 (call Tryz.prog 10 [.int .i64 r1.2.1] (.one (.l (.int .i64))) fun(r3:Int)=>
 br ((r3:Int) != 0)
 (ret (.bool false))
 (call Tryz.prog 18 [.pointer r1.1,.int .i64 0] (.one (.l .slice)) fun(r4:ay)=>
 br (((r4.n:Nat):Int)==0)
 (call Tryz.prog 18 [.pointer r1.1,.int .i64 2] (.one (.l .slice)) fun(r5:ay)=>
 br (((r5.n:Nat):Int)==2)
 (call Tryz.prog 33 [.pointer r1.1] (.one (.l (.int .i64))) fun(r6:Int)=>
 br ((r6:Int)==2)
 (call Tryz.prog 18 [.pointer none,.int .i64 3] (.one (.l .slice)) fun(r7:ay)=>
 ret (.bool (((r7.n:Nat):Int)==0)))
 (ret (.bool false)))
 (ret (.bool false)))
 (ret (.bool false))))
theorem F.bL.wo.calls(h:F.bL.wo Q w):Calls Tryz.prog 20 #[] w (aC Q):=
 Tryz.cd az.z Tryz.func20 (by kernel_rfl) (es:=[]) rfl (by kernel_rfl) h
end Go.Proofs.YtfepdmpplahloaaGreat
