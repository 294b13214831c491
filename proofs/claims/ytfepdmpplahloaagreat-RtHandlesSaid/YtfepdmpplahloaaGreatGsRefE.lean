/- Ref1 RefA RefB RefC RefD RefE. -/
import Derived.Test.YtfepdmpplahloaaGreatGsLaw5
import Derived.Test.YtfepdmpplahloaaGreatGsT
import Derived.Test.YtfepdmpplahloaaGreatGsEz
import Derived.Test.YtfepdmpplahloaaGreatGsSweep
set_option linter.unusedSimpArgs false
set_option linter.unusedVariables false
namespace Go.Proofs.YtfepdmpplahloaaGreat
open Go Go.Gl
variable{ρ0 ρ:FR}{L L':List Asn}{Post:Value→List Asn→Prop}{T:Tree}
end Go.Proofs.YtfepdmpplahloaaGreat
namespace Go.Proofs.YtfepdmpplahloaaGreat
open Go Go.Gl
variable{ρ0 ρ:FR}{L L':List Asn}{Post:Value→List Asn→Prop}{T:Tree}
def Pg.bits:Pg→List Bool| .small _ l=>l|_=>[]
abbrev G2:RK:= .one (.g [.int .i64,.int .i64])
end Go.Proofs.YtfepdmpplahloaaGreat
namespace Go.Proofs.YtfepdmpplahloaaGreat
open Go Go.Gl
variable{ρ0 ρ:FR}{L L':List Asn}{Post:Value→List Asn→Prop}{T:Tree}
end Go.Proofs.YtfepdmpplahloaaGreat
namespace Go.Proofs.YtfepdmpplahloaaGreat
open Go Go.Gl
variable{ρ0 ρ:FR}{L L':List Asn}{Post:Value→List Asn→Prop}{T:Tree}
def Pg.upto(p:Nat)(x:Pg)(i:Nat):List Int:=match x with | .small c l=>Sp.atTo p c l i| .head _=>[((p*64:Nat):Int)]|_=>[]
end Go.Proofs.YtfepdmpplahloaaGreat
namespace Go.Proofs.YtfepdmpplahloaaGreat
open Go Go.Gl
variable{ρ0 ρ:FR}{L L':List Asn}{Post:Value→List Asn→Prop}{T:Tree}
abbrev HX:RK:= .one (.g [.int .i64,.int .i64,.int .i64,.bool,.bool])
end Go.Proofs.YtfepdmpplahloaaGreat
namespace Go.Proofs.YtfepdmpplahloaaGreat
open Go Go.Gl
variable{ρ0 ρ:FR}{L L':List Asn}{Post:Value→List Asn→Prop}{T:Tree}
theorem Ob.head_cls{S:Spc}{cs:List Cls}(hw:HWf S cs){a:Int}{h:Hd}(hh:Ob.head S a=some h):Sp.mayH h=true:=by
 obtain⟨_,_,_,_,_,g,_⟩:=Ob.head_is hw hh;exact g
theorem Rd.part{s:Slc}{xs:List Int}(t:Take L (SLc s 1 (xs.map i64)) L'){lo hi:Nat}(h1:lo≤hi)(h2:hi≤xs.length):Rd ρ L ⟨if s.c=lo then s.a else s.a.map fun b=>fa b (lo*1),hi-lo,s.c-lo⟩ 1 (((xs.drop lo).take (hi-lo)).map i64):=by
 refine⟨by simp;omega,fun w hw=> ?_⟩
 by_cases he:hi=lo
 ·left;dsimp only;omega
 rcases(hw.perm t.perm).sl with ⟨g1,g2,g3,g4,_⟩|⟨b,off,pre,rest,g1,g2,g3,g4,g5,g6⟩
 ·have:xs.length=0:=by have:=congrArg List.length g4;simpa using this
  omega
 ·right
  rw[List.length_map]at g3
  refine⟨b,off+lo,by dsimp only;rw[if_neg (by omega),g1,Option.map_some,fa_mk,Nat.mul_one],fun i hi'=> ?_⟩
  rw[List.length_map,List.length_take,List.length_drop]at hi'
  obtain⟨ty,hb⟩:=g6.cl
  have hix:lo+i<xs.length:=by omega
  have e1:(((xs.drop lo).take (hi-lo)).map i64)[i]? =some (i64 (xs.getD (lo+i) 0)):=by
   rw[List.getElem?_map,List.getElem?_take,if_pos (by omega),List.getElem?_drop,List.getElem?_eq_getElem hix,List.getD_eq_getElem?_getD,List.getElem?_eq_getElem hix];rfl
  rw[e1]
  refine cell_of hb ?_
  rw[List.getElem?_toArray,show off+lo+i=pre.length+(lo+i) by omega,mid_get (by simpa using hix)]
  exact getD_map hix
end Go.Proofs.YtfepdmpplahloaaGreat
