/- Laws of collections: what they share. -/
import Derived.Test.YtfepdmpplahloaaGreatGsBx
import Derived.Test.YtfepdmpplahloaaGreatGsInv2
set_option linter.unusedSimpArgs false
set_option linter.unusedVariables false
namespace Go.Proofs.YtfepdmpplahloaaGreat
open Go Go.Gl
variable{ρ0 ρ:FR}{L L':List aA}{Post:Value→List aA→Prop}{T:Tree}
theorem yP(cs:List aS){n:Int}(h0:0≤n)(h1:n≤1023):Ob.may cs ⟨3,0,n,false⟩=0:=by
 have hm:Sp.cC ⟨3,0,n,false⟩=true:=by
  unfold Sp.cC;dsimp only
  rw[decide_eq_true (by omega),if_neg (by omega),if_pos (by omega)];rfl
 unfold Ob.may;rw[hm];rfl
theorem yg(cs:List aS){c:Int}(h0:1≤c)(h1:c≤3):Ob.may cs ⟨4,c,5,false⟩=0:=by
 have:c=1∨c=2∨c=3:=by omega
 rcases this with rfl|rfl|rfl<;>rfl
theorem kp{os:List fT}{x y:fT}:(os++[x]).set os.length y=os++[y]:=by simp
theorem ky{os:List fT}{x:fT}:(os++[x])[os.length]? =some x:=by simp
end Go.Proofs.YtfepdmpplahloaaGreat
namespace Go.Proofs.YtfepdmpplahloaaGreat
open Go Go.Gl
variable{ρ0 ρ:FR}{L L':List aA}{Post:Value→List aA→Prop}{T:Tree}
theorem Spec.post{P:Program}{f:FuncId}{args:List Value}{A:List aA}{r:RK}{B B':RT r→List aA→Prop}(h:Gl.Spec ρ P f args A r B)(hb:∀x M,B x M→B' x M):Gl.Spec ρ P f args A r B':=fun R w hw=>
 Calls.mono (h R w hw) fun e w' ⟨x,L,h1,h2,h3⟩=>⟨x,L,h1,hb x L h2,h3⟩
namespace Hn
theorem nG{hs:List Slot}(H:Ok hs){i:Nat}(hi:i<512)(h:(aQ hs i).2≠0):find hs (told hs i)=some i:=by
 obtain⟨t1,t2,t3⟩:=rZ H hi
 unfold find
 rw[if_neg (by omega),show(told hs i%512).toNat=i by omega,if_pos ⟨h,rfl⟩]
theorem fE{hs:List Slot}(hl:hs.length=512){a:Int}:a∈(all hs).map (·.2)↔(a≠0∧∃t,t<512∧(aQ hs t).2=a):=by
 unfold all
 rw[List.mem_map,hl]
 constructor
 ·rintro⟨e,he,rfl⟩
  obtain⟨t,ht,h⟩:=List.mem_flatMap.mp he
  rw[List.mem_range]at ht
  unfold jo at h
  split at h
  ·rename_i g
   rw[List.mem_singleton]at h
   subst h
   exact⟨g,t,ht,rfl⟩
  ·cases h
 ·rintro⟨h0,t,ht,rfl⟩
  refine⟨(told hs t,(aQ hs t).2),List.mem_flatMap.mpr ⟨t,List.mem_range.mpr ht,?_⟩,rfl⟩
  unfold jo
  rw[if_pos h0];simp
theorem rH{hs:List Slot}{j:Nat}(hf:free hs=some j){a:Int}(ha:0<a):iR hs a=(told hs j,0)∧∀t,aQ (du hs a) t=if t=j then((aQ hs j).1,a)else aQ hs t:=by
 unfold iR du
 rw[if_neg (by omega),if_neg (by omega),hf]
 exact⟨rfl,fun t=>nM (eE hf).1⟩
theorem BQ{hs:List Slot}(H:Ok hs){i:Nat}(hi:i<512)(h:(aQ hs i).2≠0):mj hs (told hs i)=0∧∀t,aQ (gG hs (told hs i)) t=if t=i then((aQ hs i).1+1,0)else aQ hs t:=by
 unfold mj gG
 rw[nG H hi h]
 exact⟨rfl,fun t=>nM (by rw[H.len];exact hi)⟩
end Hn
theorem nq{x:Rt}(hl:x.hs.length=512){a:Int}(ha:0<a):a∈x.roots↔((∃t,t<512∧(Hn.aQ x.hs t).2=a)∨a∈x.ro∨(∃r∈x.rows,a∈r.take 1)∨a∈x.pe):=by
 unfold Rt.roots
 rw[Mg.mem_merge]
 constructor
 ·rintro⟨_,r,hr,h⟩
  simp only[List.mem_cons,List.not_mem_nil,or_false]at hr
  rcases hr with rfl|rfl|rfl|rfl
  ·exact .inl ((Hn.fE hl).mp h).2
  ·exact .inr (.inl h)
  ·exact .inr (.inr (.inl (List.mem_flatMap.mp h)))
  ·exact .inr (.inr (.inr h))
 ·rintro(h|h|h|h)
  ·exact⟨ha,_,by simp,(Hn.fE hl).mpr ⟨by omega,h⟩⟩
  ·exact⟨ha,x.ro,by simp,h⟩
  ·exact⟨ha,x.rows.flatMap (·.take 1),by simp,List.mem_flatMap.mpr h⟩
  ·exact⟨ha,x.pe,by simp,h⟩
end Go.Proofs.YtfepdmpplahloaaGreat
namespace Go.Gl
open Go
variable{ρ0 ρ:FR}{L L':List aA}{Post:Value→List aA→Prop}{T:Tree}
end Go.Gl
namespace Go.Proofs.YtfepdmpplahloaaGreat
open Go Go.Gl
variable{ρ0 ρ:FR}{L L':List aA}{Post:Value→List aA→Prop}{T:Tree}
theorem Bx.aY{S:aD}{P:Nat}{os:List fT}{rows:List (List Int)}{n c o q t:Int}(H:Bx S [] P os)(hn:os.length+1<P)(h1:1≤c)(h2:c≤3)(q1: -1≤q)(q2:q<rows.length)(q3:c=3→0≤q)(ho:∃x∈os,x.a=o):
  ∃a S',Rf.aY S [] rows n c o q t=(a,0,S',n+1)∧0<a∧Bx S' [] P (os++[⟨a,⟨4,c,5,false⟩,[o,q+1,0,t,n+1]⟩]):=by
 obtain⟨h0,H1⟩:=H.make hn (yg [] h1 h2) (Dg (by dsimp only;omega) (by dsimp only;omega))
 have hm:Rf.may S rows c o q=0:=by
  unfold Rf.may
  obtain⟨x,hx,rfl⟩:=ho
  rw[if_neg (by omega),if_neg (by omega),if_neg (by omega),if_neg (by omega),if_neg (fun g=>by have:=q3 g.1;omega),H.head x hx];rfl
 have e:Rf.aY S [] rows n c o q t=((Ob.make S [] ⟨4,c,5,false⟩).1,0,Rf.cR (Ob.make S [] ⟨4,c,5,false⟩).2.2 (Ob.make S [] ⟨4,c,5,false⟩).1 0 [o,q+1,0,t,n+1],n+1):=by
  unfold Rf.aY;rw[if_neg (fun g=>g hm),if_neg (fun g=>g h0)]
 rw[e]
 have hpos:0<(Ob.make S [] ⟨4,c,5,false⟩).1:=H1.bo.pos (List.mem_append_right _ (List.mem_singleton.mpr rfl))
 generalize(Ob.make S [] ⟨4,c,5,false⟩).1=a at*
 generalize(Ob.make S [] ⟨4,c,5,false⟩).2.2=S1 at*
 refine⟨a,_,rfl,hpos,?_⟩
 obtain⟨_,H2⟩:=H1.put ky (k:=0) (show((0:Nat):Int)<5 by decide) o
 rw[kp]at H2
 obtain⟨_,H3⟩:=H2.put ky (k:=1) (show((1:Nat):Int)<5 by decide) (q+1)
 rw[kp]at H3
 obtain⟨_,H4⟩:=H3.put ky (k:=2) (show((2:Nat):Int)<5 by decide) 0
 rw[kp]at H4
 obtain⟨_,H5⟩:=H4.put ky (k:=3) (show((3:Nat):Int)<5 by decide) t
 rw[kp]at H5
 obtain⟨_,H6⟩:=H5.put ky (k:=4) (show((4:Nat):Int)<5 by decide) (n+1)
 rw[kp]at H6
 exact H6
theorem wB(s:ay)(l:List Int)(hl:l.length<2^62)(x:Int):Gl.Spec ρ Tryz.prog 19 [.slice s.a s.n s.c,i64 x] [aE s 1 (l.map i64)] RB fun r M=>r=decide (x∈l)∧M=[aE s 1 (l.map i64)]:=by
 refine Spec.post (Spec.own (s:=s) (m:=1) (xs:=l.map i64) (A:=[]) fun ρ1 _ r1=>DU s l r1 hl x) fun r M h=> ?_
 obtain⟨_,⟨rfl,rfl⟩,rfl⟩:=h
 exact⟨rfl,rfl⟩
end Go.Proofs.YtfepdmpplahloaaGreat
