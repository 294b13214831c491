/- Laws of collections: what they share. -/
import Derived.Test.YtfepdmpplahloaaGreatGsBx
import Derived.Test.YtfepdmpplahloaaGreatGsInv2
set_option linter.unusedSimpArgs false
set_option linter.unusedVariables false
namespace Go.Proofs.YtfepdmpplahloaaGreat
open Go Go.Gl
variable{ρ0 ρ:FR}{L L':List Asn}{Post:Value→List Asn→Prop}{T:Tree}
theorem may_box(cs:List Cls){n:Int}(h0:0≤n)(h1:n≤1023):Ob.may cs ⟨2,0,n,false⟩=0:=by
 have hm:Sp.mayH ⟨2,0,n,false⟩=true:=by
  unfold Sp.mayH;dsimp only
  rw[decide_eq_true (by omega),if_neg (by omega),if_pos (by omega)];rfl
 unfold Ob.may;rw[hm];rfl
theorem may_data(cs:List Cls){n:Int}(h0:0≤n)(h1:n≤1023):Ob.may cs ⟨3,0,n,false⟩=0:=by
 have hm:Sp.mayH ⟨3,0,n,false⟩=true:=by
  unfold Sp.mayH;dsimp only
  rw[decide_eq_true (by omega),if_neg (by omega),if_pos (by omega)];rfl
 unfold Ob.may;rw[hm];rfl
theorem may_refer(cs:List Cls){c:Int}(h0:1≤c)(h1:c≤3):Ob.may cs ⟨4,c,5,false⟩=0:=by
 have:c=1∨c=2∨c=3:=by omega
 rcases this with rfl|rfl|rfl<;>rfl
theorem set_last{os:List Ob1}{x y:Ob1}:(os++[x]).set os.length y=os++[y]:=by simp
theorem get_last{os:List Ob1}{x:Ob1}:(os++[x])[os.length]? =some x:=by simp
end Go.Proofs.YtfepdmpplahloaaGreat
namespace Go.Proofs.YtfepdmpplahloaaGreat
open Go Go.Gl
variable{ρ0 ρ:FR}{L L':List Asn}{Post:Value→List Asn→Prop}{T:Tree}
def Flat(S:Spc)(cs:List Cls):Prop:=∀a,Mk.obj S a→∀b∈Mk.kids S cs a,¬Mk.obj S b
end Go.Proofs.YtfepdmpplahloaaGreat
namespace Go.Proofs.YtfepdmpplahloaaGreat
open Go Go.Gl
variable{ρ0 ρ:FR}{L L':List Asn}{Post:Value→List Asn→Prop}{T:Tree}
theorem Spec.post{P:Program}{f:FuncId}{args:List Value}{A:List Asn}{r:RK}{B B':RT r→List Asn→Prop}(h:Gl.Spec ρ P f args A r B)(hb:∀x M,B x M→B' x M):Gl.Spec ρ P f args A r B':=fun R w hw=>
 Calls.mono (h R w hw) fun e w' ⟨x,L,h1,h2,h3⟩=>⟨x,L,h1,hb x L h2,h3⟩
theorem new_bx:Bx (Sp.newSpc 60) [] 60 []:=by
 have h:=newSpc_hwf (n:=60) (by omega) (by omega)
 refine⟨h,⟨1,Pfx.new (by omega),by simp⟩,by kernel_rfl,?_,by simp,by simp,by simp⟩
 rw[new_each (by omega) (by omega)];exact .refl _
namespace Hn
theorem mem_all{hs:List Slot}(hl:hs.length=512){a:Int}:a∈(all hs).map (·.2)↔(a≠0∧∃t,t<512∧(at' hs t).2=a):=by
 unfold all
 rw[List.mem_map,hl]
 constructor
 ·rintro⟨e,he,rfl⟩
  obtain⟨t,ht,h⟩:=List.mem_flatMap.mp he
  rw[List.mem_range]at ht
  unfold all1 at h
  split at h
  ·rename_i g
   rw[List.mem_singleton]at h
   subst h
   exact⟨g,t,ht,rfl⟩
  ·cases h
 ·rintro⟨h0,t,ht,rfl⟩
  refine⟨(told hs t,(at' hs t).2),List.mem_flatMap.mpr ⟨t,List.mem_range.mpr ht,?_⟩,rfl⟩
  unfold all1
  rw[if_pos h0];simp
end Hn
theorem mem_roots{x:Rt}(hl:x.hs.length=512){a:Int}(ha:0<a):a∈x.roots↔((∃t,t<512∧(Hn.at' x.hs t).2=a)∨a∈x.ro∨(∃r∈x.rows,a∈r.take 1)∨a∈x.pe):=by
 unfold Rt.roots
 rw[Mg.mem_merge]
 constructor
 ·rintro⟨_,r,hr,h⟩
  simp only[List.mem_cons,List.not_mem_nil,or_false]at hr
  rcases hr with rfl|rfl|rfl|rfl
  ·exact .inl ((Hn.mem_all hl).mp h).2
  ·exact .inr (.inl h)
  ·exact .inr (.inr (.inl (List.mem_flatMap.mp h)))
  ·exact .inr (.inr (.inr h))
 ·rintro(h|h|h|h)
  ·exact⟨ha,_,by simp,(Hn.mem_all hl).mpr ⟨by omega,h⟩⟩
  ·exact⟨ha,x.ro,by simp,h⟩
  ·exact⟨ha,x.rows.flatMap (·.take 1),by simp,List.mem_flatMap.mpr h⟩
  ·exact⟨ha,x.pe,by simp,h⟩
end Go.Proofs.YtfepdmpplahloaaGreat
namespace Go.Gl
open Go
variable{ρ0 ρ:FR}{L L':List Asn}{Post:Value→List Asn→Prop}{T:Tree}
end Go.Gl
namespace Go.Proofs.YtfepdmpplahloaaGreat
open Go Go.Gl
variable{ρ0 ρ:FR}{L L':List Asn}{Post:Value→List Asn→Prop}{T:Tree}
theorem Bx.refer{S:Spc}{os:List Ob1}{rows:List (List Int)}{n c o q t:Int}(H:Bx S [] 60 os)(hn:os.length+1<60)(h1:1≤c)(h2:c≤3)(q1: -1≤q)(q2:q<rows.length)(q3:c=3→0≤q)(ho:∃x∈os,x.a=o):
  ∃a S',Rf.refer S [] rows n c o q t=(a,0,S',n+1)∧0<a∧Bx S' [] 60 (os++[⟨a,⟨4,c,5,false⟩,[o,q+1,0,t,n+1]⟩]):=by
 obtain⟨h0,H1⟩:=H.make hn (may_refer [] h1 h2) (need1 (by dsimp only;omega) (by dsimp only;omega))
 have hm:Rf.may S rows c o q=0:=by
  unfold Rf.may
  obtain⟨x,hx,rfl⟩:=ho
  rw[if_neg (by omega),if_neg (by omega),if_neg (by omega),if_neg (by omega),if_neg (fun g=>by have:=q3 g.1;omega),H.head x hx];rfl
 have e:Rf.refer S [] rows n c o q t=((Ob.make S [] ⟨4,c,5,false⟩).1,0,Rf.puts (Ob.make S [] ⟨4,c,5,false⟩).2.2 (Ob.make S [] ⟨4,c,5,false⟩).1 0 [o,q+1,0,t,n+1],n+1):=by
  unfold Rf.refer;rw[if_neg (fun g=>g hm),if_neg (fun g=>g h0)]
 rw[e]
 have hpos:0<(Ob.make S [] ⟨4,c,5,false⟩).1:=H1.bo.pos (List.mem_append_right _ (List.mem_singleton.mpr rfl))
 generalize(Ob.make S [] ⟨4,c,5,false⟩).1=a at*
 generalize(Ob.make S [] ⟨4,c,5,false⟩).2.2=S1 at*
 refine⟨a,_,rfl,hpos,?_⟩
 obtain⟨_,H2⟩:=H1.put get_last (k:=0) (show((0:Nat):Int)<5 by decide) o
 rw[set_last]at H2
 obtain⟨_,H3⟩:=H2.put get_last (k:=1) (show((1:Nat):Int)<5 by decide) (q+1)
 rw[set_last]at H3
 obtain⟨_,H4⟩:=H3.put get_last (k:=2) (show((2:Nat):Int)<5 by decide) 0
 rw[set_last]at H4
 obtain⟨_,H5⟩:=H4.put get_last (k:=3) (show((3:Nat):Int)<5 by decide) t
 rw[set_last]at H5
 obtain⟨_,H6⟩:=H5.put get_last (k:=4) (show((4:Nat):Int)<5 by decide) (n+1)
 rw[set_last]at H6
 exact H6
end Go.Proofs.YtfepdmpplahloaaGreat
