/- Ref1 RefA RefB RefC RefD RefE. -/
import Derived.Test.YtfepdmpplahloaaGreatGsLaw5
import Derived.Test.YtfepdmpplahloaaGreatGsTr1
import Derived.Test.YtfepdmpplahloaaGreatGsGraph2
import Derived.Test.YtfepdmpplahloaaGreatGsSweep
set_option linter.unusedSimpArgs false
set_option linter.unusedVariables false
namespace Go.Proofs.YtfepdmpplahloaaGreat
open Go Go.Gl
variable{ρ0 ρ:FR}{L L':List aA}{Post:Value→List aA→Prop}{T:Tree}
end Go.Proofs.YtfepdmpplahloaaGreat
namespace Go.Proofs.YtfepdmpplahloaaGreat
open Go Go.Gl
variable{ρ0 ρ:FR}{L L':List aA}{Post:Value→List aA→Prop}{T:Tree}
def Pg.bits:Pg→List Bool| .small _ l=>l|_=>[]
abbrev G2:RK:= .one (.g [.int .i64,.int .i64])
end Go.Proofs.YtfepdmpplahloaaGreat
namespace Go.Proofs.YtfepdmpplahloaaGreat
open Go Go.Gl
variable{ρ0 ρ:FR}{L L':List aA}{Post:Value→List aA→Prop}{T:Tree}
end Go.Proofs.YtfepdmpplahloaaGreat
namespace Go.Proofs.YtfepdmpplahloaaGreat
open Go Go.Gl
variable{ρ0 ρ:FR}{L L':List aA}{Post:Value→List aA→Prop}{T:Tree}
def Pg.upto(p:Nat)(x:Pg)(i:Nat):List Int:=match x with | .small c l=>Sp.ov p c l i| .head _=>[((p*64:Nat):Int)]|_=>[]
end Go.Proofs.YtfepdmpplahloaaGreat
namespace Go.Proofs.YtfepdmpplahloaaGreat
open Go Go.Gl
variable{ρ0 ρ:FR}{L L':List aA}{Post:Value→List aA→Prop}{T:Tree}
abbrev HX:RK:= .one (.g [.int .i64,.int .i64,.int .i64,.bool,.bool])
theorem yb{cs:List aS}{c:Int}{x:aS}(h:Sp.fP cs c=some x):1≤c∧c≤cs.length∧cs[(c-1).toNat]? =some x:=by
 obtain⟨i,rfl,hi⟩:=Sp.jl h
 have:=aV hi
 refine⟨by omega,by omega,?_⟩
 rw[show((i:Int)+1-1).toNat=i by omega];exact hi
end Go.Proofs.YtfepdmpplahloaaGreat
namespace Go.Proofs.YtfepdmpplahloaaGreat
open Go Go.Gl
variable{ρ0 ρ:FR}{L L':List aA}{Post:Value→List aA→Prop}{T:Tree}
theorem Ob.mQ{S:aD}{cs:List aS}(hw:aO S cs){a:Int}{h:Hd}(hh:Ob.head S a=some h):Sp.cC h=true:=by
 obtain⟨_,_,_,_,_,g,_⟩:=Ob.bt hw hh;exact g
def Kn(S:aD)(cs:List aS):Prop:=∀a h,Ob.head S a=some h→h.k=1→∃c,Sp.fP cs h.c=some c
theorem Rd.part{s:ay}{xs:List Int}(t:Take L (aE s 1 (xs.map i64)) L'){lo hi:Nat}(h1:lo≤hi)(h2:hi≤xs.length):Rd ρ L ⟨if s.c=lo then s.a else s.a.map fun b=>fa b (lo*1),hi-lo,s.c-lo⟩ 1 (((xs.drop lo).take (hi-lo)).map i64):=by
 refine⟨by simp;omega,fun w hw=> ?_⟩
 by_cases he:hi=lo
 ·left;dsimp only;omega
 rcases(hw.perm t.perm).sl with ⟨g1,g2,g3,g4,_⟩|⟨b,off,pre,rest,g1,g2,g3,g4,g5,g6⟩
 ·have:xs.length=0:=by have:=congrArg List.length g4;simpa using this
  omega
 ·right
  rw[List.length_map]at g3
  refine⟨b,off+lo,by dsimp only;rw[if_neg (by omega),g1,Option.map_some,af,Nat.mul_one],fun i hi'=> ?_⟩
  rw[List.length_map,List.length_take,List.length_drop]at hi'
  obtain⟨ty,hb⟩:=g6.cl
  have hix:lo+i<xs.length:=by omega
  have e1:(((xs.drop lo).take (hi-lo)).map i64)[i]? =some (i64 (xs.getD (lo+i) 0)):=by
   rw[List.getElem?_map,List.getElem?_take,if_pos (by omega),List.getElem?_drop,List.getElem?_eq_getElem hix,List.getD_eq_getElem?_getD,List.getElem?_eq_getElem hix];rfl
  rw[e1]
  refine cell_of hb ?_
  rw[List.getElem?_toArray,show off+lo+i=pre.length+(lo+i) by omega,gp (by simpa using hix)]
  exact getD_map hix
end Go.Proofs.YtfepdmpplahloaaGreat
