/- Soft Proc Proc2 Proc3 Proc4 Proc5 Proc6 Col Proc7 Proc8. -/
import Derived.Test.YtfepdmpplahloaaGreatGsStab5
import Derived.Test.YtfepdmpplahloaaGreatGsGraph2
import Derived.Test.YtfepdmpplahloaaGreatGsMark5
set_option linter.unusedSimpArgs false
set_option linter.unusedVariables false
namespace Go.Proofs.YtfepdmpplahloaaGreat
open Go Go.Gl
variable{ρ0 ρ:FR}{L L':List Asn}{Post:Value→List Asn→Prop}{T:Tree}
theorem wrapu_mod{n:Int}(h0:0≤n):IntKind.wrap .u64 n=n%18446744073709551616:=by
 unfold IntKind.wrap IntKind.bits IntKind.signed
 simp only[Bool.false_and,Bool.false_eq_true,if_false]
 omega
theorem and_mask{x:Int}(h0:0≤x)(h1:x<18446744073709551616):ibits .and .u64 x 4294967295=x%4294967296:=by
 obtain⟨n,rfl⟩:=Int.eq_ofNat_of_zero_le h0
 unfold ibits
 dsimp only
 have e:(BitVec.ofInt (IntKind.bits .u64) (n:Int)&&& BitVec.ofInt (IntKind.bits .u64) 4294967295).toNat=n%4294967296:=by
  rw[BitVec.toNat_and,BitVec.toNat_ofInt,BitVec.toNat_ofInt]
  have a1:((n:Int)%((2^IntKind.bits .u64:Nat):Int)).toNat=n:=by
   have:((2^IntKind.bits .u64:Nat):Int)=18446744073709551616:=by decide
   rw[this];omega
  have a2:((4294967295:Int)%((2^IntKind.bits .u64:Nat):Int)).toNat=2^32-1:=by decide
  rw[a1,a2,Nat.and_two_pow_sub_one_eq_mod]
 rw[e,wrapu64 (by omega) (by omega)]
 omega
theorem mul_bnd{a b:Int}(a0:0≤a)(a1:a≤4294967295)(b0:0≤b)(b1:b≤4294967295):0≤a*b∧a*b≤18446744065119617025:=
 ⟨Int.mul_nonneg a0 b0,Int.le_trans (Int.mul_le_mul a1 b1 b0 (by omega)) (by decide)⟩
abbrev U2:RK:= .many [.l (.int .u64),.l (.int .u64)]
theorem bits_mul(x y:Int)(x0:0≤x)(x1:x<9223372036854775808)(y0:0≤y)(y1:y<9223372036854775808):Gl.Spec ρ Tryz.prog 228 [.int .u64 x,.int .u64 y] [] U2
  fun r M=>r=(x*y/18446744073709551616,x*y%18446744073709551616,())∧M=[]:=by
 refine Spec.of (fun Q w h=>F.bits.Mul64.calls x y h) fun R=> ?_
 unfold F.bits.Mul64
 try simp only[lca,lna]
 refine en_need (by decide) (en_need (by decide) (en_need (by decide) (en_need (by decide) (en_need (by decide) ?_))))
 have e:(2^(min (32:Int).toNat (IntKind.bits .u64)):Int)=4294967296:=by decide
 have fd:∀a:Int,Int.fdiv a (2^(min (32:Int).toNat (IntKind.bits .u64)))=a/4294967296:=fun a=>by rw[e];exact Int.fdiv_eq_ediv_of_nonneg _ (by decide)
 simp only[fd]
 rw[and_mask x0 (by omega),and_mask y0 (by omega),wrapu_mod (Int.mul_nonneg x0 y0)]
 obtain⟨xh,hxh⟩:∃z,z=x/4294967296:=⟨_,rfl⟩
 obtain⟨xl,hxl⟩:∃z,z=x%4294967296:=⟨_,rfl⟩
 obtain⟨yh,hyh⟩:∃z,z=y/4294967296:=⟨_,rfl⟩
 obtain⟨yl,hyl⟩:∃z,z=y%4294967296:=⟨_,rfl⟩
 rw[←hxh,←hxl,←hyh,←hyl]
 have hx:x=xh*4294967296+xl:=by omega
 have hy:y=yh*4294967296+yl:=by omega
 have b1:=mul_bnd (a:=xh) (b:=yh) (by omega) (by omega) (by omega) (by omega)
 have b2:=mul_bnd (a:=xh) (b:=yl) (by omega) (by omega) (by omega) (by omega)
 have b3:=mul_bnd (a:=xl) (b:=yh) (by omega) (by omega) (by omega) (by omega)
 have b4:=mul_bnd (a:=xl) (b:=yl) (by omega) (by omega) (by omega) (by omega)
 have hxy:x*y=xh*yh*18446744073709551616+(xh*yl+xl*yh)*4294967296+xl*yl:=by
  have t1:xh*4294967296*(yh*4294967296)=xh*yh*18446744073709551616:=by
   rw[Int.mul_assoc,Int.mul_left_comm 4294967296 yh,←Int.mul_assoc xh yh];rfl
  have t2:xh*4294967296*yl=xh*yl*4294967296:=Int.mul_right_comm _ _ _
  have t3:xl*(yh*4294967296)=xl*yh*4294967296:=(Int.mul_assoc _ _ _).symm
  rw[hx,hy,Int.add_mul,Int.mul_add,Int.mul_add,t1,t2,t3,Int.add_mul]
  omega
 have hpos:=Int.mul_nonneg x0 y0
 have hlt:x*y<18446744073709551616*9223372036854775808:=by
  have:=Int.mul_le_mul (show x≤9223372036854775808 by omega) (show y≤9223372036854775808 by omega) y0 (by omega)
  omega
 rw[hxy]at hpos hlt⊢
 generalize xh*yh=a at*
 generalize xh*yl=b at*
 generalize xl*yh=c at*
 generalize xl*yl=d at*
 refine en_rets (x:=((a*18446744073709551616+(b+c)*4294967296+d)/18446744073709551616,(a*18446744073709551616+(b+c)*4294967296+d)%18446744073709551616,())) ?_ ⟨rfl,rfl⟩ tks ens
 rw[wrapu64 (n:=d) (by omega) (by omega),wrapu64 (n:=b) (by omega) (by omega),wrapu64 (n:=a) (by omega) (by omega),wrapu64 (n:=c) (by omega) (by omega),wrapu64 (n:=b+d/4294967296) (by omega) (by omega),and_mask (x:=b+d/4294967296) (by omega) (by omega)]
 rw[wrapu64 (n:=(b+d/4294967296)%4294967296+c) (by omega) (by omega),wrapu64 (n:=a+(b+d/4294967296)/4294967296) (by omega) (by omega),wrapu64 (by omega) (by omega)]
 have e2:a+(b+d/4294967296)/4294967296+((b+d/4294967296)%4294967296+c)/4294967296=(a*18446744073709551616+(b+c)*4294967296+d)/18446744073709551616:=by omega
 rw[e2];rfl
def Sf.none(n:Int):Int:=if n>0 then n else 0
def Sf.idle(c s:Int):Int:=Sf.none (Sf.none c-Sf.none s)
def Sf.limit(f r:Int):Int:=if Sf.none f*Sf.none r>9223372036854775807 then 9223372036854775807 else Sf.none f*Sf.none r
def Sf.keep(c s f r:Int):Bool:=decide (Sf.idle c s≤Sf.limit f r)
theorem soft_none(n:Int):Gl.Spec ρ Tryz.prog 159 [i64 n] [] R1 fun r M=>r=Sf.none n∧M=[]:=by
 refine Spec.of (fun Q w h=>F.soft.none.calls n h) fun R=> ?_
 unfold F.soft.none
 try simp only[lca,lna]
 exact en_rets (x:=Sf.none n) rfl ⟨rfl,rfl⟩ tks ens
theorem sf_none{n:Int}(h:n<9223372036854775808):0≤Sf.none n∧Sf.none n<9223372036854775808:=by
 unfold Sf.none;split<;>omega
theorem soft_idle(c s:Int)(hc:c<9223372036854775808)(hs:s<9223372036854775808):Gl.Spec ρ Tryz.prog 222 [i64 c,i64 s] [] R1 fun r M=>r=Sf.idle c s∧M=[]:=by
 refine Spec.of (fun Q w h=>F.soft.Idle.calls c s h) fun R=> ?_
 unfold F.soft.Idle
 try simp only[lca,lna]
 have h1:=sf_none hc
 have h2:=sf_none hs
 refine en_call (soft_none c) tks ?_
 rintro x' M ⟨rfl,rfl⟩
 try simp only[lca,lna]
 refine en_call (soft_none s) tks ?_
 rintro x' M ⟨rfl,rfl⟩
 try simp only[lca,lna]
 rw[wrap64 (by omega) (by omega)]
 refine en_call (soft_none (Sf.none c-Sf.none s)) tks ?_
 rintro x' M ⟨rfl,rfl⟩
 try simp only[lca,lna]
 exact en_rets (x:=Sf.idle c s) rfl ⟨rfl,rfl⟩ tks ens
theorem soft_limit(f r:Int)(hf:f<9223372036854775808)(hr:r<9223372036854775808):Gl.Spec ρ Tryz.prog 223 [i64 f,i64 r] [] R1 fun x M=>x=Sf.limit f r∧M=[]:=by
 refine Spec.of (fun Q w h=>F.soft.Limit.calls f r h) fun R=> ?_
 unfold F.soft.Limit
 try simp only[lca,lna]
 have h1:=sf_none hf
 have h2:=sf_none hr
 refine en_call (soft_none f) tks ?_
 rintro x' M ⟨rfl,rfl⟩
 try simp only[lca,lna]
 refine en_call (soft_none r) tks ?_
 rintro x' M ⟨rfl,rfl⟩
 try simp only[lca,lna]
 unfold Sf.limit
 generalize Sf.none f=x at*
 generalize Sf.none r=y at*
 rw[wrapu64 (n:=x) (by omega) (by omega),wrapu64 (n:=y) (by omega) (by omega)]
 refine en_call (bits_mul x y h1.1 h1.2 h2.1 h2.2) tks ?_
 rintro x' M ⟨rfl,rfl⟩
 try simp only[lca,lna]
 have hp:=Int.mul_nonneg h1.1 h2.1
 generalize x*y=z at*
 refine en_br (fun h=> ?_) (fun h=> ?_)
 ·replace h:z/18446744073709551616>0:=of_decide_eq_true h
  rw[if_pos (by omega)]
  exact en_rets (x:=(9223372036854775807:Int)) rfl ⟨rfl,rfl⟩ tks ens
 ·replace h:¬z/18446744073709551616>0:=of_decide_eq_false h
  refine en_br (fun h3=> ?_) (fun h3=> ?_)
  ·replace h3:z%18446744073709551616>9223372036854775807:=of_decide_eq_true h3
   rw[if_pos (by omega)]
   exact en_rets (x:=(9223372036854775807:Int)) rfl ⟨rfl,rfl⟩ tks ens
  ·replace h3:¬z%18446744073709551616>9223372036854775807:=of_decide_eq_false h3
   rw[if_neg (by omega),show z%18446744073709551616=z by omega,wrap64 (by omega) (by omega)]
   exact en_rets (x:=z) rfl ⟨rfl,rfl⟩ tks ens
theorem soft_keep(c s f r:Int)(hc:c<9223372036854775808)(hs:s<9223372036854775808)(hf:f<9223372036854775808)(hr:r<9223372036854775808):Gl.Spec ρ Tryz.prog 208 [i64 c,i64 s,i64 f,i64 r] [] RB fun x M=>x=Sf.keep c s f r∧M=[]:=by
 refine Spec.of (fun Q w h=>F.soft.Keep.calls c s f r h) fun R=> ?_
 unfold F.soft.Keep
 try simp only[lca,lna]
 refine en_call (soft_idle c s hc hs) tks ?_
 rintro x' M ⟨rfl,rfl⟩
 try simp only[lca,lna]
 refine en_call (soft_limit f r hf hr) tks ?_
 rintro x' M ⟨rfl,rfl⟩
 try simp only[lca,lna]
 exact en_rets (x:=Sf.keep c s f r) rfl ⟨rfl,rfl⟩ tks ens
end Go.Proofs.YtfepdmpplahloaaGreat
namespace Go.Proofs.YtfepdmpplahloaaGreat
open Go Go.Gl
variable{ρ0 ρ:FR}{L L':List Asn}{Post:Value→List Asn→Prop}{T:Tree}
def Idx6(g:Rf6→Bool)(l:List Rf6)(r:Int):Prop:=(r= -1∧∀x∈l,g x=false)∨∃k:Nat,r=k∧k<l.length∧g (l.getD k d6)=true
theorem idx_funcR(s:Slc)(l:List Rf6)(hs:RoS ρ s 6 (l.flatMap rc))(hl:l.length<2^62){f:FuncId}{fn:Func}{i c:Array Value}{A:List Asn}{g:Rf6→Bool}(hf:Tryz.prog.funcs[f]? =some fn)(hb:fn.body.isSome=true)
  (hg:∀x∈l,Gl.Spec ρ Tryz.prog f (i.toList++[.agg (rc x).toArray]++c.toList) A RB fun r M=>r=g x∧M=A):
  Gl.Spec ρ Tryz.prog 180 [.slice s.a s.n s.c,.func (.func f) i c] A R1 fun r M=>Idx6 g l r∧M=A:=by
 refine Spec.of (fun Q w h=>F.slices.IndexFuncR.calls s (.func (.func f) i c) h) fun R=> ?_
 unfold F.slices.IndexFuncR
 have hn:s.n=l.length:=by
  have:=hs.1
  rw[flat_len (g:=rc) (m:=6) rc_len]at this
  omega
 refine en_lp (fun n u M=>(fun j:Int=>M=A++R∧0≤j∧j≤l.length∧n=l.length-j.toNat∧∀x∈l.take j.toNat,g x=false) u.1) l.length ?_ ?_
 ·exact⟨rfl,by simp,by dsimp only;omega,by simp,by simp⟩
 ·rintro n ⟨(j:Int),⟨⟩⟩ M ⟨rfl,j0,j1,rfl,hno⟩ X hX
  dsimp only at j0 j1 hno hX⊢
  refine en_br (fun h=> ?_) (fun h=> ?_)
  ·replace h:j<(s.n:Int):=of_decide_eq_true h
   have hj:j.toNat<l.length:=by omega
   have hj2:l[j.toNat]? =some (l.getD j.toNat d6):=by rw[List.getD_eq_getElem?_getD,List.getElem?_eq_getElem hj];rfl
   have hin:l.getD j.toNat d6∈l:=List.mem_of_getElem? hj2
   refine en_ixRo hs j0 h fun a0 ha=> ?_
   refine en_ldRg (x:=l.getD j.toNat d6) ha hs (j:=j.toNat*6) (by rintro b o rfl;simp[fa_mk]) (fun e v he=> ?_) ?_
   ·have hlt:e<6:=(List.getElem?_eq_some_iff.1 he).1
    rw[Nat.add_zero,flat_get (g:=rc) (m:=6) rc_len hj2 hlt];exact he
   refine en_callF hf hb (hg _ hin) (Takes.app _ _) ?_
   rintro r M ⟨rfl,rfl⟩
   refine en_br (fun h2=> ?_) (fun h2=> ?_)
   ·exact en_rets (x:=j) rfl ⟨.inr ⟨j.toNat,(show(j:Int)=((j.toNat:Nat):Int) by omega),hj,h2⟩,rfl⟩ (Takes.app _ _) .refl
   ·rw[wrap64 (n:=j+1) (by omega) (by omega)]
    refine hX (l.length-(j+1).toNat) _ _ (by omega) ⟨rfl,by dsimp only;omega,by dsimp only;omega,rfl,fun x hx=> ?_⟩
    dsimp only at hx
    rw[show(j+1).toNat=j.toNat+1 by omega,take_succ_getD d6 hj]at hx
    rcases List.mem_append.mp hx with hx|hx
    ·exact hno x hx
    ·rw[List.mem_singleton]at hx;rw[hx];exact h2
  ·replace h:¬j<(s.n:Int):=of_decide_eq_false h
   rw[List.take_of_length_le (by omega)]at hno
   exact en_rets (x:=(-1:Int)) rfl ⟨.inl ⟨rfl,hno⟩,rfl⟩ (Takes.app _ _) .refl
end Go.Proofs.YtfepdmpplahloaaGreat
namespace Go.Proofs.YtfepdmpplahloaaGreat
open Go Go.Gl
variable{ρ0 ρ:FR}{L L':List Asn}{Post:Value→List Asn→Prop}{T:Tree}
structure In7 where
 ro:Slc
 fi:Slc
 clock:Int
 free:Int
 rate:Int
 all:Bool
 stack:Int
structure In7.Ok(x:In7):Prop where
 c:x.clock<9223372036854775808
 f:x.free<9223372036854775808
 r:x.rate<9223372036854775808
abbrev CmA(c t p:Nat)(x:In7)(rf:Slc):Asn:=blk c [.pointer (some ⟨t,0,none⟩),.pointer (some ⟨p,0,none⟩),.slice x.ro.a x.ro.n x.ro.c,.slice x.fi.a x.fi.n x.fi.c,.int .i64 x.clock,.int .i64 x.free,.int .i64 x.rate,.bool x.all,.int .i64 x.stack,.slice rf.a rf.n rf.c]
def lostB(S:Spc)(m:List Bool)(r:Rf6):Bool:=(Ob.head S r.2.2.1).isSome&& !Sp.has m r.2.2.1
theorem proc_lost(c t p room:Nat)(x:In7)(rf:Slc)(S:Spc)(cs:List Cls)(hw:HWf S cs)(q:Mk.St)(r:Rf6):Gl.Spec ρ Tryz.prog 182 [.pointer (some ⟨c,0,none⟩),.agg (rc r).toArray] [CmA c t p x rf,TrA t p room q,HeapA p S cs] RB
  fun b M=>b=lostB S q.m r∧M=[CmA c t p x rf,TrA t p room q,HeapA p S cs]:=by
 refine Spec.of (fun Q w h=>F.proc.common.lost.calls (some ⟨c,0,none⟩) r h) fun R=> ?_
 obtain⟨r1,r2,r3,r4,r5,r6,⟨⟩⟩:=r
 unfold F.proc.common.lost
 try simp only[lca,lna]
 refine en_nw fun b1=> ?_
 refine en_drw (en_held [CmA c t p x rf,blk b1 [.int .i64 r1,.int .i64 r2,.int .i64 r3,.int .i64 r4,.int .i64 r5,.int .i64 r6]] tks ?_)
 refine en_nn (en_ldS (k:= .ptr) (b:=c) (off:=1) (x:=some ⟨p,0,none⟩) (by rw[fa_mk]) tk rfl ?_)
 refine en_ldS (k:= .int .i64) (b:=b1) (off:=2) (x:=r3) (by rw[fa_mk]) tk rfl ?_
 refine en_both ?g1 ?g2
 case' g1=>
  refine en_call (object_head p S cs hw r3) tks ?_
  rintro x' M ⟨rfl,rfl⟩
  try simp only[lca,lna]
  refine en_nw fun b7=> ?_
  rw[zcH]
 case' g2=>
  refine en_nw fun b7=> ?_
  rw[zcH]
  refine en_chk tks ?_
  refine en_call (object_head p S cs hw r3) tks ?_
  rintro x' M ⟨rfl,rfl⟩
  try simp only[lca,lna]
 all_goals
  unfold lostB
  dsimp only
  cases hh:Ob.head S r3 with
  |none=>
   dsimp only[Ob.headR]
   refine en_st (b:=b7) (off:=0) rfl tk (by simp) rfl ?_
   refine en_drw (en_brf rfl ?_)
   exact en_rets (x:=false) rfl ⟨rfl,rfl⟩ tks ens
  |some hd=>
   obtain⟨hk,hc,hn,hf⟩:=hd
   dsimp only[Ob.headR,Hd.t]
   refine en_st (b:=b7) (off:=0) rfl tk (by simp) rfl ?_
   refine en_drw (en_brt rfl (en_nn ?_))
   refine en_ld (k:= .ptr) (b:=c) (off:=0) (x:=some ⟨t,0,none⟩) (by rw[fa_mk]) tk rfl ?_
   refine en_ld (k:= .int .i64) (b:=b1) (off:=2) (x:=r3) (by rw[fa_mk]) tk rfl ?_
   refine en_call (mark_marked t p room q r3) tks ?_
   rintro x' M ⟨rfl,rfl⟩
   try simp only[lca,lna]
   exact en_rets (x:= !Sp.has q.m r3) rfl ⟨rfl,rfl⟩ tks ens
def keptB(S:Spc)(m:List Bool)(x:In7)(r:Rf6):Bool:=decide (r.2.1=1)&&(!x.all&&(Sp.has m r.1&&(lostB S m r&&Sf.keep x.clock r.2.2.2.2.1 x.free x.rate)))
theorem proc_kept(c t p room:Nat)(x:In7)(hx:x.Ok)(rf:Slc)(S:Spc)(cs:List Cls)(hw:HWf S cs)(q:Mk.St)(r:Rf6)(hr:r.2.2.2.2.1<9223372036854775808):Gl.Spec ρ Tryz.prog 181 [.agg #[.pointer (some ⟨c,0,none⟩)],.agg (rc r).toArray] [CmA c t p x rf,TrA t p room q,HeapA p S cs] RB
  fun b M=>b=keptB S q.m x r∧M=[CmA c t p x rf,TrA t p room q,HeapA p S cs]:=by
 refine Spec.of (fun Q w h=>F.proc.softly.kept.calls (some ⟨c,0,none⟩,()) r h) fun R=> ?_
 obtain⟨r1,r2,r3,r4,r5,r6,⟨⟩⟩:=r
 have hr:r5<9223372036854775808:=hr
 unfold F.proc.softly.kept keptB
 try simp only[lca,lna]
 refine en_nw fun b1=>en_nw fun b2=> ?_
 refine en_drw (en_held [CmA c t p x rf,blk b1 [.pointer (some ⟨c,0,none⟩)],blk b2 [.int .i64 r1,.int .i64 r2,.int .i64 r3,.int .i64 r4,.int .i64 r5,.int .i64 r6]] tks ?_)
 refine en_ldS (k:= .int .i64) (b:=b2) (off:=1) (x:=r2) (by rw[fa_mk]) tk rfl ?_
 refine en_br (fun h1=> ?_) (fun h1=> ?_)
 ·have h1:r2=1:=eq_of_beq h1
  rw[decide_eq_true h1,Bool.true_and]
  refine en_ldS (k:= .ptr) (b:=b1) (off:=0) (x:=some ⟨c,0,none⟩) (by rw[fa_mk]) tk rfl (en_nn ?_)
  refine en_ldS (k:= .bool) (b:=c) (off:=7) (x:=x.all) (by rw[fa_mk,fa_mk]) tk rfl ?_
  refine en_br (fun h2=> ?_) (fun h2=> ?_)
  ·rw[h2,Bool.true_and]
   refine en_ldS (k:= .ptr) (b:=b1) (off:=0) (x:=some ⟨c,0,none⟩) (by rw[fa_mk]) tk rfl (en_nn ?_)
   refine en_ldS (k:= .ptr) (b:=c) (off:=0) (x:=some ⟨t,0,none⟩) (by rw[fa_mk]) tk rfl ?_
   refine en_ldS (k:= .int .i64) (b:=b2) (off:=0) (x:=r1) (by rw[fa_mk]) tk rfl ?_
   refine en_call (mark_marked t p room q r1) tks ?_
   rintro x' M ⟨rfl,rfl⟩
   try simp only[lca,lna]
   refine en_chk tks (en_cut [CmA c t p x rf,blk b1 [.pointer (some ⟨c,0,none⟩)],blk b2 [.int .i64 r1,.int .i64 r2,.int .i64 r3,.int .i64 r4,.int .i64 r5,.int .i64 r6]] tks (fun w h=>h) ?_)
   refine en_br (fun h3=> ?_) (fun h3=> ?_)
   ·rw[h3,Bool.true_and]
    refine en_ldS (k:= .ptr) (b:=b1) (off:=0) (x:=some ⟨c,0,none⟩) (by rw[fa_mk]) tk rfl ?_
    refine en_ldgS (b:=b2) (off:=0) (x:=(r1,r2,r3,r4,r5,r6,())) [] rfl tk rfl ?_
    refine en_call (proc_lost c t p room x rf S cs hw q (r1,r2,r3,r4,r5,r6,())) tks ?_
    rintro x' M ⟨rfl,rfl⟩
    try simp only[lca,lna]
    refine en_chk tks (en_cut [CmA c t p x rf,blk b1 [.pointer (some ⟨c,0,none⟩)],blk b2 [.int .i64 r1,.int .i64 r2,.int .i64 r3,.int .i64 r4,.int .i64 r5,.int .i64 r6]] tks (fun w h=>h) ?_)
    refine en_br (fun h4=> ?_) (fun h4=> ?_)
    ·rw[h4,Bool.true_and]
     refine en_ldS (k:= .ptr) (b:=b1) (off:=0) (x:=some ⟨c,0,none⟩) (by rw[fa_mk]) tk rfl (en_nn ?_)
     refine en_ldS (k:= .int .i64) (b:=c) (off:=4) (x:=x.clock) (by rw[fa_mk,fa_mk]) tk rfl ?_
     refine en_ldS (k:= .int .i64) (b:=b2) (off:=4) (x:=r5) (by rw[fa_mk]) tk rfl ?_
     refine en_ldS (k:= .ptr) (b:=b1) (off:=0) (x:=some ⟨c,0,none⟩) (by rw[fa_mk]) tk rfl (en_nn ?_)
     refine en_ldS (k:= .int .i64) (b:=c) (off:=5) (x:=x.free) (by rw[fa_mk,fa_mk]) tk rfl ?_
     refine en_ldS (k:= .ptr) (b:=b1) (off:=0) (x:=some ⟨c,0,none⟩) (by rw[fa_mk]) tk rfl (en_nn ?_)
     refine en_ldS (k:= .int .i64) (b:=c) (off:=6) (x:=x.rate) (by rw[fa_mk,fa_mk]) tk rfl ?_
     refine en_call (soft_keep x.clock r5 x.free x.rate hx.c hr hx.f hx.r) tks ?_
     rintro x' M ⟨rfl,rfl⟩
     try simp only[lca,lna]
     exact en_rets (x:=Sf.keep x.clock r5 x.free x.rate) rfl ⟨rfl,rfl⟩ tks ens
    ·rw[h4]
     exact en_rets (x:=false) rfl ⟨rfl,rfl⟩ tks ens
   ·rw[h3]
    refine en_cut [CmA c t p x rf,blk b1 [.pointer (some ⟨c,0,none⟩)],blk b2 [.int .i64 r1,.int .i64 r2,.int .i64 r3,.int .i64 r4,.int .i64 r5,.int .i64 r6]] tks (fun w h=>h) ?_
    exact en_rets (x:=false) rfl ⟨rfl,rfl⟩ tks ens
  ·have h2:x.all=true:=by simpa using h2
   rw[h2]
   refine en_cut [CmA c t p x rf,blk b1 [.pointer (some ⟨c,0,none⟩)],blk b2 [.int .i64 r1,.int .i64 r2,.int .i64 r3,.int .i64 r4,.int .i64 r5,.int .i64 r6]] tks (fun w h=>h) ?_
   refine en_cut [CmA c t p x rf,blk b1 [.pointer (some ⟨c,0,none⟩)],blk b2 [.int .i64 r1,.int .i64 r2,.int .i64 r3,.int .i64 r4,.int .i64 r5,.int .i64 r6]] tks (fun w h=>h) ?_
   exact en_rets (x:=false) rfl ⟨rfl,rfl⟩ tks ens
 ·have h1:r2≠1:=by simpa using h1
  rw[decide_eq_false h1]
  refine en_cut [CmA c t p x rf,blk b1 [.pointer (some ⟨c,0,none⟩)],blk b2 [.int .i64 r1,.int .i64 r2,.int .i64 r3,.int .i64 r4,.int .i64 r5,.int .i64 r6]] tks (fun w h=>h) ?_
  refine en_cut [CmA c t p x rf,blk b1 [.pointer (some ⟨c,0,none⟩)],blk b2 [.int .i64 r1,.int .i64 r2,.int .i64 r3,.int .i64 r4,.int .i64 r5,.int .i64 r6]] tks (fun w h=>h) ?_
  exact en_rets (x:=false) rfl ⟨rfl,rfl⟩ tks ens
end Go.Proofs.YtfepdmpplahloaaGreat
namespace Go.Proofs.YtfepdmpplahloaaGreat
open Go Go.Gl
variable{ρ0 ρ:FR}{L L':List Asn}{Post:Value→List Asn→Prop}{T:Tree}
inductive SoftR (S:Spc) (cs:List Cls) (l:List Rf6) (x:In7) (R0:Int→Prop):Int→Prop
 |base {a:Int} (h:R0 a):SoftR S cs l x R0 a
 |keep {r:Rf6} {a:Int} (hr:r∈l) (h1:r.2.1=1) (h2:x.all=false) (h3:SoftR S cs l x R0 r.1) (h4:Sf.keep x.clock r.2.2.2.2.1 x.free x.rate=true) (ho:Mk.obj S r.2.2.1) (ha:Mk.Rch S cs [r.2.2.1] a):SoftR S cs l x R0 a
theorem tr_weak3{ρ':FR}(h0:Le ρ0 ρ)(hle:Le ρ ρ')(h:Tr ρ0 ρ L T Post):Tr ρ0 ρ' L T Post:=fun _ w hw=>h h0 w (hw.weak hle)
theorem count_le6:∀{m m':List Bool},m.length=m'.length→(∀i:Nat,m.getD i false=true→m'.getD i false=true)→m'.count false≤m.count false
 |[],[],_,_=>Nat.le_refl _
 |b::m,b'::m',hl,h=>by
  have ih:=count_le6 (m:=m) (m':=m') (by simpa using hl) (fun i hi=>by simpa using h (i+1) (by simpa using hi))
  have h0:=h 0
  cases b<;>cases b'<;>simp[List.count_cons]at h0⊢<;>omega
theorem count_lt6:∀{m m':List Bool} (j:Nat),m.length=m'.length→(∀i:Nat,m.getD i false=true→m'.getD i false=true)→m.getD j false=false→m'.getD j false=true→m'.count false<m.count false
 |[],[],j,_,_,_,h=>by simp at h
 |b::m,b'::m',0,hl,h,h1,h2=>by
  have ih:=count_le6 (m:=m) (m':=m') (by simpa using hl) (fun i hi=>by simpa using h (i+1) (by simpa using hi))
  simp at h1 h2
  subst h1 h2
  simp[List.count_cons]
  omega
 |b::m,b'::m',j+1,hl,h,h1,h2=>by
  have ih:=count_lt6 (m:=m) (m':=m') j (by simpa using hl) (fun i hi=>by simpa using h (i+1) (by simpa using hi)) (by simpa using h1) (by simpa using h2)
  have h0:=h 0
  cases b<;>cases b'<;>simp[List.count_cons]at h0⊢<;>omega
theorem proc_softly(c t p room:Nat)(hroom:room≤4096)(x:In7)(hx:x.Ok)(rf:Slc)(l:List Rf6)(hrf:RoS ρ rf 6 (l.flatMap rc))(hl:l.length<2^40)(hst:∀r∈l,r.2.2.2.2.1<9223372036854775808)(S:Spc)(cs:List Cls)(hw:HWf S cs)(q:Mk.St)(H:Mk.Rest S cs room q):
  Gl.Spec ρ Tryz.prog 144 [.agg #[.pointer (some ⟨c,0,none⟩)]] [CmA c t p x rf,TrA t p room q,HeapA p S cs] (.many [])
  fun _ M=>∃q',M=[CmA c t p x rf,TrA t p room q',HeapA p S cs]∧Mk.Rest S cs room q'∧∀a,Sp.has q'.m a=true↔SoftR S cs l x (fun a=>Sp.has q.m a=true) a:=by
 refine Spec.of (fun Q w h=>F.proc.softly.run.calls (some ⟨c,0,none⟩,()) h) fun R=> ?_
 unfold F.proc.softly.run
 try simp only[lca,lna]
 refine en_nw fun b1=> ?_
 refine en_lp (fun m u M=>∃q1,M=blk b1 [.pointer (some ⟨c,0,none⟩)]::CmA c t p x rf::TrA t p room q1::HeapA p S cs::R∧m=q1.m.count false∧Mk.Rest S cs room q1∧(∀a,Sp.has q.m a=true→Sp.has q1.m a=true)∧∀a,Sp.has q1.m a=true→SoftR S cs l x (fun a=>Sp.has q.m a=true) a) _ ⟨q,rfl,rfl,H,fun _ h=>h,fun _ h=> .base h⟩ ?_
 rintro m ⟨⟩ M ⟨q1,rfl,rfl,H1,hup,hsnd⟩ X hX
 refine en_drw ?_
 refine en_ld (k:= .ptr) (b:=b1) (off:=0) (x:=some ⟨c,0,none⟩) (by rw[fa_mk]) tk rfl ?_
 refine en_nn ?_
 refine en_ld (k:= .slice) (b:=c) (off:=9) (x:=rf) (by rw[fa_mk]) tk rfl ?_
 refine en_ldg (b:=b1) (off:=0) (x:=(some ⟨c,0,none⟩,())) [] rfl tk rfl ?_
 refine en_call (idx_funcR rf l hrf (by omega) (i:= #[.agg #[.pointer (some ⟨c,0,none⟩)]]) (c:= #[]) (A:=[CmA c t p x rf,TrA t p room q1,HeapA p S cs]) (g:=keptB S q1.m x) Tryz.func181 (by kernel_rfl) (fun r hr=>by
  have:=proc_kept (ρ:=ρ) c t p room x hx rf S cs hw q1 r (hst r hr)
  simpa using this)) tks ?_
 rintro r8 M ⟨hidx,rfl⟩
 try simp only[lca,lna]
 have hlen:=H1.closed.len
 have hwl:=hw.wf.len
 rcases hidx with ⟨rfl,hno⟩|⟨k,rfl,hk,hg⟩
 ·refine en_brt rfl ?_
  refine en_rets (x:=()) rfl ⟨q1,rfl,H1,fun a=>⟨hsnd a,fun ha=> ?_⟩⟩ tks ens
  induction ha with
  |base h=>exact hup _ h
  | @keep r a hr g1 g2 _ g4 go ga ih=>
   have hno:=hno r hr
   have hm:Sp.has q1.m r.2.2.1=true:=by
    cases hm:Sp.has q1.m r.2.2.1 with
    |true=>rfl
    |false=>
     have:keptB S q1.m x r=true:=by
      unfold keptB lostB
      unfold Mk.obj at go
      rw[decide_eq_true g1,g2,ih,go,hm,g4];rfl
     rw[this]at hno;cases hno
   exact H1.closed.rch (fun b hb _=>by rw[List.mem_singleton]at hb;rw[hb];exact hm) ga
 ·have hki:l[k]? =some (l.getD k d6):=by rw[List.getD_eq_getElem?_getD,List.getElem?_eq_getElem hk];rfl
  have hin:=List.mem_of_getElem? hki
  generalize hrr:l.getD k d6=r at*
  refine en_brf (decide_eq_false (show¬((k:Nat):Int)<0 by omega)) ?_
  refine en_drw (en_held [blk b1 [.pointer (some ⟨c,0,none⟩)],CmA c t p x rf] tks ?_)
  refine en_ldS (k:= .ptr) (b:=b1) (off:=0) (x:=some ⟨c,0,none⟩) (by rw[fa_mk]) tk rfl (en_nn ?_)
  refine en_ldS (k:= .ptr) (b:=c) (off:=0) (x:=some ⟨t,0,none⟩) (by rw[fa_mk]) tk rfl ?_
  refine en_ldS (k:= .ptr) (b:=b1) (off:=0) (x:=some ⟨c,0,none⟩) (by rw[fa_mk]) tk rfl (en_nn ?_)
  refine en_ldS (k:= .slice) (b:=c) (off:=9) (x:=rf) (by rw[fa_mk]) tk rfl ?_
  have hn:rf.n=l.length:=by
   have:=hrf.1
   rw[flat_len (g:=rc) (m:=6) rc_len]at this
   omega
  refine en_ixRo hrf (by omega) (by omega) fun a0 ha=> ?_
  rw[Int.toNat_natCast]
  refine en_ldRoS (k:= .int .i64) (j:=k*6+2) (x:=r.2.2.1) ha hrf (by rintro b o rfl;rw[fa_mk,fa_mk,Nat.add_assoc]) (by rw[flat_get (g:=rc) (m:=6) rc_len hki (by omega)];rfl) ?_
  refine en_nw fun b18=>en_chk tks ?_
  refine Rd.bk (n:=1) (m:=1) (vs:=([r.2.2.1]:List Int).map i64) rfl tk fun ρ1 hle1 ro1=> ?_
  refine en_call (mark_mark t p room hroom S cs hw q1 H1 ⟨some ⟨b18,0,none⟩,1,1⟩ [r.2.2.1] ro1 (by simp)) tks ?_
  rintro x' M ⟨q2,rfl,H2,hq2⟩
  try simp only[lca,lna]
  unfold keptB lostB at hg
  rw[Bool.and_eq_true,Bool.and_eq_true,Bool.and_eq_true,Bool.and_eq_true,Bool.and_eq_true]at hg
  obtain⟨g1,g2,g3,⟨g4,g5⟩,g6⟩:=hg
  have hold:∀a,Sp.has q1.m a=true→Sp.has q2.m a=true:=fun a h=>(hq2 a).mpr (.inl h)
  have hcnt:q2.m.count false<q1.m.count false:=by
   obtain⟨k0,k1⟩:=Mk.obj_in hw g4
   have hm2:Sp.has q2.m r.2.2.1=true:=(hq2 _).mpr (.inr (.root (List.mem_singleton.mpr rfl) g4))
   have hl2:=H2.closed.len
   refine count_lt6 r.2.2.1.toNat (by omega) (fun i hi=> ?_) ?_ ?_
   ·have:=hold (i:Int) (by unfold Sp.has;rw[decide_eq_true (by omega),Int.toNat_natCast,hi];rfl)
    unfold Sp.has at this
    rw[decide_eq_true (by omega),Bool.true_and,Int.toNat_natCast]at this
    exact this
   ·unfold Sp.has at g5
    rw[decide_eq_true k0,Bool.true_and]at g5
    simpa using g5
   ·unfold Sp.has at hm2
    rw[decide_eq_true k0,Bool.true_and]at hm2
    exact hm2
  refine Tr.take (A:=CmA c t p x rf) tk (Tr.take (A:=blk b1 [.pointer (some ⟨c,0,none⟩)]) tk ?_)
  refine tr_weak3 (Le.refl _) hle1 (hX _ _ _ hcnt ⟨q2,rfl,rfl,H2,fun a h=>hold a (hup a h),fun a h=> ?_⟩)
  rcases(hq2 a).mp h with h|h
  ·exact hsnd a h
  ·exact .keep hin (of_decide_eq_true g1) (by simpa using g2) (hsnd _ g3) g6 g4 h
end Go.Proofs.YtfepdmpplahloaaGreat
namespace Go.Proofs.YtfepdmpplahloaaGreat
open Go Go.Gl
variable{ρ0 ρ:FR}{L L':List Asn}{Post:Value→List Asn→Prop}{T:Tree}
def ref1(o:Ob1):Option Rf6:=if o.h.k=4 then some (o.a,o.h.c,o.ws.getD 0 0,o.ws.getD 1 0,o.ws.getD 3 0,o.ws.getD 4 0,())else none
def refsOf(S:Spc):List Rf6:=(Ob.objs S).filterMap ref1
theorem appRef:appB Tryz.prog #[215,215] 6 48=true:=by kernel_rfl
theorem ref_len{S:Spc}{cs:List Cls}(hw:HWf S cs):∀o∈Ob.objs S,o.h.k=4→o.ws.length=5:=fun o ho hk=>by
 obtain⟨a,_,rfl⟩:=List.mem_map.mp ho
 unfold Ob.at1 at hk⊢
 split
 ·rename_i h hh
  rw[hh]at hk
  dsimp only at hk
  obtain⟨_,_,_,_,_,g,_⟩:=Ob.head_is hw hh
  have:h.n=5:=by
   unfold Sp.mayH at g
   rw[if_neg (by omega),if_neg (by omega)]at g
   simp at g
   omega
  simp[this]
 ·rename_i hh
  rw[hh]at hk
  simp at hk
theorem proc_refs(p:Nat)(S:Spc)(cs:List Cls)(hw:HWf S cs):Gl.Spec ρ Tryz.prog 142 [.pointer (some ⟨p,0,none⟩)] [HeapA p S cs] RS
  fun r M=>∃l:List Rf6,M=[SLc r 6 (l.flatMap rc),HeapA p S cs]∧l.Perm (refsOf S)∧Srt6 0 l.length l:=by
 refine Spec.of (fun Q w h=>F.proc.refs.calls (some ⟨p,0,none⟩) h) fun R=> ?_
 unfold F.proc.refs
 try simp only[lca,lna]
 refine en_call (object_objects p S cs hw) tks ?_
 rintro r1 M ⟨rfl,hn1⟩
 try simp only[lca,lna]
 have hol:(Ob.objs S).length<2^14:=by
  have:=Sp.each_len hw.wf
  unfold Ob.objs;rw[List.length_map];omega
 have hrl:=ref_len hw
 refine Tr.keepObs (s:=r1) (os:=Ob.objs S) tk fun ρ1 hle1 hobs=> ?_
 unfold refsOf
 generalize Ob.objs S=os at*
 obtain⟨_,lo,hlo,hro,hqs⟩:=hobs
 have hll:lo.length=os.length:=by rw[←hlo];simp
 refine Tr.nilSL 6 ?_
 refine en_lp (fun m u M=>(fun(t:Slc) (i:Int)=>M=SLc t 6 (((os.take i.toNat).filterMap ref1).flatMap rc)::HeapA p S cs::R∧0≤i∧i≤os.length∧m=os.length-i.toNat) u.1 u.2.1) os.length ?_ ?_
 ·exact⟨rfl,by simp,by dsimp only;omega,by simp⟩
 ·rintro m ⟨(t:Slc),(i:Int),⟨⟩⟩ M ⟨rfl,i0,i1,rfl⟩ X hX
  dsimp only at i0 i1 hX⊢
  refine rs_len (s:=t) (l:=(os.take i.toNat).filterMap ref1) tk fun htn=> ?_
  have hfl:((os.take i.toNat).filterMap ref1).length≤os.length:=Nat.le_trans (List.length_filterMap_le _ _) (by simp;omega)
  refine en_br (fun h=> ?_) (fun h=> ?_)
  ·replace h:i<(r1.n:Int):=of_decide_eq_true h
   have hi:i.toNat<os.length:=by omega
   have hx:lo[i.toNat]? =some lo[i.toNat]:=List.getElem?_eq_getElem (by omega)
   have hxo:os[i.toNat]? =some lo[i.toNat].1:=by
    have:=congrArg (fun l:List Ob1=>l[i.toNat]?) hlo
    rw[List.getElem?_map,hx]at this
    exact this.symm
   have ht:(os.take (i+1).toNat).filterMap ref1=(os.take i.toNat).filterMap ref1++[lo[i.toNat].1].filterMap ref1:=by
    rw[show(i+1).toNat=i.toNat+1 by omega,List.take_add_one,hxo,List.filterMap_append];rfl
   obtain⟨hq,hqn⟩:=hqs _ (List.mem_of_getElem? hx)
   have h5:=hrl _ (List.mem_of_getElem? hxo)
   generalize lo[i.toNat]=y at*
   obtain⟨⟨a,⟨k,c,n,f⟩,ws⟩,q⟩:=y
   dsimp only at hq hqn h5 ht
   refine en_ixRo hro i0 h fun a0 ha=> ?_
   refine en_ldRg (x:=(a,k,c,n,f,q,())) ha hro (j:=i.toNat*6) (by rintro b o rfl;simp[fa_mk]) (fun e v he=> ?_) ?_
   ·have hlt:e<6:=(List.getElem?_eq_some_iff.1 he).1
    rw[Nat.add_zero,flat_get (g:=obCs) (m:=6) (fun _=>rfl) hx hlt];exact he
   dsimp only
   refine en_nw fun b6=> ?_
   rw[zcO]
   refine en_st (b:=b6) (off:=0) rfl tk (by simp) rfl ?_
   refine en_ld (k:= .int .i64) (b:=b6) (off:=1) (x:=k) (by rw[fa_mk,fa_mk]) tk rfl ?_
   rw[wrap64 (n:=i+1) (by omega) (by omega)]
   refine en_br (fun h2=> ?_) (fun h2=> ?_)
   ·have h2:k=4:=eq_of_beq h2
    have h5:=h5 h2
    refine en_ld (k:= .slice) (b:=b6) (off:=5) (x:=q) (by rw[fa_mk]) tk rfl ?_
    refine en_drw (en_held [blk b6 [.int .i64 a,.int .i64 k,.int .i64 c,.int .i64 n,.bool f,.slice q.a q.n q.c]] tks ?_)
    refine en_ldS (k:= .int .i64) (b:=b6) (off:=0) (x:=a) (by rw[fa_mk]) tk rfl ?_
    refine en_ldS (k:= .int .i64) (b:=b6) (off:=2) (x:=c) (by rw[fa_mk,fa_mk]) tk rfl ?_
    refine en_getRoS hq (by omega) (by omega) ?_
    refine en_getRoS hq (by omega) (by omega) ?_
    refine en_getRoS hq (by omega) (by omega) ?_
    refine en_getRoS hq (by omega) (by omega) ?_
    refine en_nw fun b20=> ?_
    refine en_app (s:=t) (x:=⟨some ⟨b20,0,none⟩,1,1⟩) (ys:=rc (a,c,ws.getD (0:Int).toNat 0,ws.getD (1:Int).toNat 0,ws.getD (3:Int).toNat 0,ws.getD (4:Int).toNat 0,())) appRef tk (Rd.cl tk rfl rfl) rfl (by rw[htn];dsimp only;omega) (by rw[htn];dsimp only;omega) fun r hr=> ?_
    refine Tr.drop (A:=blk b20 (rc (a,c,ws.getD (0:Int).toNat 0,ws.getD (1:Int).toNat 0,ws.getD (3:Int).toNat 0,ws.getD (4:Int).toNat 0,()))) tk ?_
    refine Tr.drop (A:=blk b6 [.int .i64 a,.int .i64 k,.int .i64 c,.int .i64 n,.bool f,.slice q.a q.n q.c]) tk ?_
    refine hX (os.length-(i+1).toNat) _ _ (by omega) ⟨?_,by dsimp only;omega,by dsimp only;omega,rfl⟩
    dsimp only
    rw[ht,show[(⟨a,⟨k,c,n,f⟩,ws⟩:Ob1)].filterMap ref1=[(a,c,ws.getD 0 0,ws.getD 1 0,ws.getD 3 0,ws.getD 4 0,())] by simp[ref1,h2],List.flatMap_append]
    simp
   ·have h2:k≠4:=by simpa using h2
    refine Tr.drop (A:=blk b6 [.int .i64 a,.int .i64 k,.int .i64 c,.int .i64 n,.bool f,.slice q.a q.n q.c]) tk ?_
    refine hX (os.length-(i+1).toNat) _ _ (by omega) ⟨?_,by dsimp only;omega,by dsimp only;omega,rfl⟩
    dsimp only
    rw[ht,show[(⟨a,⟨k,c,n,f⟩,ws⟩:Ob1)].filterMap ref1=[] by simp[ref1,h2],List.append_nil]
  ·replace h:¬i<(r1.n:Int):=of_decide_eq_false h
   rw[List.take_of_length_le (by omega)]at hfl⊢
   refine en_call (sort_stable t (os.filterMap ref1) (by omega)) tks ?_
   rintro x' M ⟨l',rfl,hp,hs⟩
   try simp only[lca,lna]
   rw[←hp.length_eq]at hs
   exact en_rets (x:=t) rfl ⟨l',rfl,hp,hs⟩ tks ens
end Go.Proofs.YtfepdmpplahloaaGreat
namespace Go.Proofs.YtfepdmpplahloaaGreat
open Go Go.Gl
variable{ρ0 ρ:FR}{L L':List Asn}{Post:Value→List Asn→Prop}{T:Tree}
theorem int_index{A:List Asn}(s:Slc)(xs:List Int)(hr:Rd ρ A s 1 (xs.map i64))(hl:xs.length<2^62)(v:Int):Gl.Spec ρ Tryz.prog 150 [.slice s.a s.n s.c,i64 v] A R1 fun r M=>(0≤r↔v∈xs)∧M=A:=by
 refine Spec.of (fun Q w h=>F.slices.Index.calls s v h) fun R=> ?_
 unfold F.slices.Index
 have hn:s.n=xs.length:=by have:=hr.1;simpa using this.symm
 refine en_lp (fun n u M=>(fun j:Int=>M=A++R∧0≤j∧j≤xs.length∧n=xs.length-j.toNat∧v∉xs.take j.toNat) u.1) xs.length ?_ ?_
 ·exact⟨rfl,by simp,by dsimp only;omega,by simp,by simp⟩
 ·rintro n ⟨(j:Int),⟨⟩⟩ M ⟨rfl,j0,j1,rfl,hno⟩ X hX
  dsimp only at j0 j1 hno hX⊢
  refine en_br (fun h=> ?_) (fun h=> ?_)
  ·replace h:j<(s.n:Int):=of_decide_eq_true h
   have hj:j.toNat<xs.length:=by omega
   refine en_getRd hr (Takes.app A R) j0 (by omega) ?_
   refine en_br (fun h2=> ?_) (fun h2=> ?_)
   ·have h2:v=xs.getD j.toNat 0:=eq_of_beq h2
    have hin:v∈xs:=by rw[h2,List.getD_eq_getElem?_getD,List.getElem?_eq_getElem hj];exact List.getElem_mem hj
    exact en_rets (x:=j) rfl ⟨⟨fun _=>hin,fun _=>j0⟩,rfl⟩ (Takes.app _ _) .refl
   ·have h2:v≠xs.getD j.toNat 0:=by simpa using h2
    rw[wrap64 (n:=j+1) (by omega) (by omega)]
    refine hX (xs.length-(j+1).toNat) _ _ (by omega) ⟨rfl,by dsimp only;omega,by dsimp only;omega,rfl,?_⟩
    dsimp only
    rw[show(j+1).toNat=j.toNat+1 by omega,take_succ_getD 0 hj,List.mem_append,List.mem_singleton]
    rintro(h|h)
    ·exact hno h
    ·exact h2 h
  ·replace h:¬j<(s.n:Int):=of_decide_eq_false h
   rw[List.take_of_length_le (by omega)]at hno
   exact en_rets (x:=(-1:Int)) rfl ⟨⟨fun g=>absurd g (by decide),fun g=>absurd g hno⟩,rfl⟩ (Takes.app _ _) .refl
theorem int_contains{A:List Asn}(s:Slc)(xs:List Int)(hr:Rd ρ A s 1 (xs.map i64))(hl:xs.length<2^62)(v:Int):Gl.Spec ρ Tryz.prog 122 [.slice s.a s.n s.c,i64 v] A RB fun r M=>r=decide (v∈xs)∧M=A:=by
 refine Spec.of (fun Q w h=>F.slices.Contains.calls s v h) fun R=> ?_
 unfold F.slices.Contains
 refine en_call (int_index s xs hr hl v) (Takes.app A R) ?_
 rintro r M ⟨hi,rfl⟩
 refine en_rets (x:=decide (v∈xs)) ?_ ⟨rfl,rfl⟩ (Takes.app _ _) .refl
 show Value.bool _=Value.bool _
 congr 1
 rw[Bool.eq_iff_iff,decide_eq_true_iff,decide_eq_true_iff]
 exact hi
def clearOf(S:Spc)(m:List Bool)(xs:List Int)(l:List Rf6):List Int:=(l.filter fun r=>decide (r.2.1∈xs)&&lostB S m r).map (·.1)
theorem proc_cleared(c t p room:Nat)(x:In7)(rf:Slc)(l:List Rf6)(hrf:RoS ρ rf 6 (l.flatMap rc))(hl:l.length<2^38)(S:Spc)(cs:List Cls)(hw:HWf S cs)(q:Mk.St)(z:Slc)(xs:List Int)(hz:RoS ρ z 1 (xs.map i64))(hxl:xs.length<2^40):
  Gl.Spec ρ Tryz.prog 145 [.pointer (some ⟨c,0,none⟩),.slice z.a z.n z.c] [CmA c t p x rf,TrA t p room q,HeapA p S cs] RS
  fun r M=>M=[SLc r 1 ((clearOf S q.m xs l).map i64),CmA c t p x rf,TrA t p room q,HeapA p S cs]:=by
 refine Spec.of (fun Q w h=>F.proc.common.cleared.calls (some ⟨c,0,none⟩) z h) fun R=> ?_
 unfold F.proc.common.cleared
 try simp only[lca,lna]
 have hn:rf.n=l.length:=by
  have:=hrf.1
  rw[flat_len (g:=rc) (m:=6) rc_len]at this
  omega
 refine en_nn ?_
 refine en_ld (k:= .slice) (b:=c) (off:=9) (x:=rf) (by rw[fa_mk]) tk rfl ?_
 refine Tr.nilSL 1 ?_
 refine en_lp (fun m u M=>(fun(o:Slc) (i:Int)=>M=SLc o 1 ((clearOf S q.m xs (l.take i.toNat)).map i64)::CmA c t p x rf::TrA t p room q::HeapA p S cs::R∧0≤i∧i≤l.length∧m=l.length-i.toNat) u.1 u.2.1) l.length ?_ ?_
 ·exact⟨rfl,by simp,by dsimp only;omega,by simp⟩
 ·rintro m ⟨(o:Slc),(i:Int),⟨⟩⟩ M ⟨rfl,i0,i1,rfl⟩ X hX
  dsimp only at i0 i1 hX⊢
  refine en_br (fun h=> ?_) (fun h=> ?_)
  ·replace h:i<(rf.n:Int):=of_decide_eq_true h
   have hi:i.toNat<l.length:=by omega
   have hii:l[i.toNat]? =some (l.getD i.toNat d6):=by rw[List.getD_eq_getElem?_getD,List.getElem?_eq_getElem hi];rfl
   have ht:l.take (i+1).toNat=l.take i.toNat++[l.getD i.toNat d6]:=by rw[show(i+1).toNat=i.toNat+1 by omega,take_succ_getD d6 hi]
   refine en_ixRo hrf i0 h fun a0 ha=> ?_
   refine en_ldRg (x:=l.getD i.toNat d6) ha hrf (j:=i.toNat*6) (by rintro b o rfl;simp[fa_mk]) (fun e v he=> ?_) ?_
   ·have hlt:e<6:=(List.getElem?_eq_some_iff.1 he).1
    rw[Nat.add_zero,flat_get (g:=rc) (m:=6) rc_len hii hlt];exact he
   generalize l.getD i.toNat d6=r at*
   have hcl:((clearOf S q.m xs (l.take i.toNat))).length≤l.length:=by
    unfold clearOf
    rw[List.length_map]
    exact Nat.le_trans (List.length_filter_le _ _) (by simp;omega)
   have hstep:clearOf S q.m xs (l.take (i+1).toNat)=clearOf S q.m xs (l.take i.toNat)++(if(decide (r.2.1∈xs)&&lostB S q.m r)=true then[r.1]else[]):=by
    unfold clearOf
    rw[ht,List.filter_append,List.map_append]
    by_cases hc:(decide (r.2.1∈xs)&&lostB S q.m r)=true
    ·rw[if_pos hc,List.filter_cons_of_pos (p:=fun r:Rf6=>decide (r.2.1∈xs)&&lostB S q.m r) hc];rfl
    ·rw[if_neg hc,List.filter_cons_of_neg (p:=fun r:Rf6=>decide (r.2.1∈xs)&&lostB S q.m r) hc];rfl
   refine en_nw fun b7=> ?_
   obtain⟨r1,r2,r3,r4,r5,r6,⟨⟩⟩:=r
   dsimp only at hstep⊢
   rw[show zc Tryz.prog 250=[.int .i64 0,.int .i64 0,.int .i64 0,.int .i64 0,.int .i64 0,.int .i64 0] by kernel_rfl]
   refine en_st (b:=b7) (off:=0) rfl tk (by simp) rfl ?_
   refine en_ld (k:= .int .i64) (b:=b7) (off:=1) (x:=r2) (by rw[fa_mk]) tk rfl ?_
   refine en_call (int_contains (A:=[]) z xs (Rd.ro hz) (by omega) r2) .nil ?_
   rintro x' M ⟨rfl,rfl⟩
   try simp only[lca,lna]
   rw[wrap64 (n:=i+1) (by omega) (by omega)]
   have skip:¬(decide (r2∈xs)&&lostB S q.m (r1,r2,r3,r4,r5,r6,()))=true→Tr ρ ρ (SLc o 1 ((clearOf S q.m xs (l.take i.toNat)).map i64)::CmA c t p x rf::TrA t p room q::HeapA p S cs::R) (X (o,i+1,())) (SP RS (fun r M=>M=[SLc r 1 ((clearOf S q.m xs l).map i64),CmA c t p x rf,TrA t p room q,HeapA p S cs]) R):=fun hc=>by
    refine hX (l.length-(i+1).toNat) _ _ (by omega) ⟨?_,by dsimp only;omega,by dsimp only;omega,rfl⟩
    dsimp only
    rw[hstep,if_neg hc,List.append_nil]
   refine en_br (fun h2=> ?_) (fun h2=> ?_)
   ·refine en_ldg (b:=b7) (off:=0) (x:=(r1,r2,r3,r4,r5,r6,())) [] rfl tk rfl ?_
    refine en_call (proc_lost c t p room x rf S cs hw q (r1,r2,r3,r4,r5,r6,())) tks ?_
    rintro x' M ⟨rfl,rfl⟩
    try simp only[lca,lna]
    refine en_br (fun h3=> ?_) (fun h3=> ?_)
    ·refine en_ld (k:= .int .i64) (b:=b7) (off:=0) (x:=r1) (by rw[fa_mk]) tk rfl ?_
     refine en_appI (s:=o) (xs:=clearOf S q.m xs (l.take i.toNat)) appInt tk (by omega) fun r hr=> ?_
     refine Tr.drop (A:=blk b7 [.int .i64 r1,.int .i64 r2,.int .i64 r3,.int .i64 r4,.int .i64 r5,.int .i64 r6]) tk ?_
     refine hX (l.length-(i+1).toNat) _ _ (by omega) ⟨?_,by dsimp only;omega,by dsimp only;omega,rfl⟩
     dsimp only
     rw[hstep,if_pos (by rw[h2,h3];rfl)]
    ·refine Tr.drop (A:=blk b7 [.int .i64 r1,.int .i64 r2,.int .i64 r3,.int .i64 r4,.int .i64 r5,.int .i64 r6]) tk ?_
     refine Tr.take (A:=SLc o 1 ((clearOf S q.m xs (l.take i.toNat)).map i64)) tk (skip (by rw[h3];simp))
   ·refine Tr.drop (A:=blk b7 [.int .i64 r1,.int .i64 r2,.int .i64 r3,.int .i64 r4,.int .i64 r5,.int .i64 r6]) tk (skip (by rw[h2];simp))
  ·replace h:¬i<(rf.n:Int):=of_decide_eq_false h
   rw[List.take_of_length_le (by omega)]
   exact en_rets (x:=o) rfl rfl tks ens
end Go.Proofs.YtfepdmpplahloaaGreat
namespace Go.Proofs.YtfepdmpplahloaaGreat
open Go Go.Gl
variable{ρ0 ρ:FR}{L L':List Asn}{Post:Value→List Asn→Prop}{T:Tree}
def pend1(S:Spc)(m:List Bool)(o:List Int)(a:Int):List Int:=if lostB S m (0,0,a,0,0,0,())=true∧a∉o then o++[a]else o
def pendOf(S:Spc)(m:List Bool)(fs:List Int):List Int:=fs.foldl (pend1 S m) []
theorem pend_len(S:Spc)(m:List Bool):∀(fs o:List Int),(fs.foldl (pend1 S m) o).length≤o.length+fs.length
 |[],o=>by simp
 |a::fs,o=>by
  rw[List.foldl_cons]
  have:=pend_len S m fs (pend1 S m o a)
  have h1:(pend1 S m o a).length≤o.length+1:=by unfold pend1;split<;>simp
  rw[List.length_cons];omega
theorem proc_finals(c t p room:Nat)(hroom:room≤4096)(x:In7)(rf:Slc)(fs:List Int)(hfs:RoS ρ x.fi 1 (fs.map i64))(hl:fs.length<2^30)(S:Spc)(cs:List Cls)(hw:HWf S cs)(q:Mk.St)(H:Mk.Rest S cs room q):
  Gl.Spec ρ Tryz.prog 146 [.agg #[.pointer (some ⟨c,0,none⟩)]] [CmA c t p x rf,TrA t p room q,HeapA p S cs] RS
  fun r M=>∃q',M=[SLc r 1 ((pendOf S q.m fs).map i64),CmA c t p x rf,TrA t p room q',HeapA p S cs]∧Mk.Rest S cs room q'∧∀a,Sp.has q'.m a=true↔(Sp.has q.m a=true∨Mk.Rch S cs (pendOf S q.m fs) a):=by
 refine Spec.of (fun Q w h=>F.proc.finals.run.calls (some ⟨c,0,none⟩,()) h) fun R=> ?_
 unfold F.proc.finals.run
 try simp only[lca,lna]
 have hn:=hfs.len
 refine en_nw fun b1=> ?_
 refine en_ld (k:= .ptr) (b:=b1) (off:=0) (x:=some ⟨c,0,none⟩) (by rw[fa_mk]) tk rfl ?_
 refine en_nn ?_
 refine en_ld (k:= .slice) (b:=c) (off:=3) (x:=x.fi) (by rw[fa_mk,fa_mk]) tk rfl ?_
 refine Tr.nilSL 1 ?_
 refine en_lp (fun m u M=>(fun(o:Slc) (i:Int)=>M=SLc o 1 ((pendOf S q.m (fs.take i.toNat)).map i64)::blk b1 [.pointer (some ⟨c,0,none⟩)]::CmA c t p x rf::TrA t p room q::HeapA p S cs::R∧0≤i∧i≤fs.length∧m=fs.length-i.toNat) u.1 u.2.1) fs.length ?_ ?_
 ·exact⟨rfl,by simp,by dsimp only;omega,by simp⟩
 ·rintro m ⟨(o:Slc),(i:Int),⟨⟩⟩ M ⟨rfl,i0,i1,rfl⟩ X hX
  dsimp only at i0 i1 hX⊢
  have hpl:=pend_len S q.m (fs.take i.toNat) []
  rw[List.length_take]at hpl
  have hpl:(pendOf S q.m (fs.take i.toNat)).length≤fs.length:=by unfold pendOf;simp at hpl;omega
  refine Tr.nlen (s:=o) (xs:=pendOf S q.m (fs.take i.toNat)) tk fun hon=> ?_
  refine en_br (fun h=> ?_) (fun h=> ?_)
  ·replace h:i<(x.fi.n:Int):=of_decide_eq_true h
   have hi:i.toNat<fs.length:=by omega
   have hstep:pendOf S q.m (fs.take (i+1).toNat)=pend1 S q.m (pendOf S q.m (fs.take i.toNat)) (fs.getD i.toNat 0):=by
    unfold pendOf
    rw[show(i+1).toNat=i.toNat+1 by omega,take_succ_getD 0 hi,List.foldl_append];rfl
   refine en_getRo hfs i0 (by omega) ?_
   generalize fs.getD i.toNat 0=a at*
   generalize pendOf S q.m (fs.take i.toNat)=os at*
   refine en_ld (k:= .ptr) (b:=b1) (off:=0) (x:=some ⟨c,0,none⟩) (by rw[fa_mk]) tk rfl ?_
   refine en_call (proc_lost c t p room x rf S cs hw q (0,0,a,0,0,0,())) tks ?_
   rintro x' M ⟨rfl,rfl⟩
   try simp only[lca,lna]
   rw[wrap64 (n:=i+1) (by omega) (by omega)]
   have go:∀(o':Slc) (os':List Int),os'=pend1 S q.m os a→Tr ρ ρ (SLc o' 1 (os'.map i64)::blk b1 [.pointer (some ⟨c,0,none⟩)]::CmA c t p x rf::TrA t p room q::HeapA p S cs::R) (X (o',i+1,())) (SP RS (fun r M=>∃q',M=[SLc r 1 ((pendOf S q.m fs).map i64),CmA c t p x rf,TrA t p room q',HeapA p S cs]∧Mk.Rest S cs room q'∧∀a,Sp.has q'.m a=true↔(Sp.has q.m a=true∨Mk.Rch S cs (pendOf S q.m fs) a)) R):=fun o' os' e=>by
    refine hX (fs.length-(i+1).toNat) _ _ (by omega) ⟨?_,by dsimp only;omega,by dsimp only;omega,rfl⟩
    dsimp only
    rw[hstep,e]
   refine en_br (fun h2=> ?_) (fun h2=> ?_)
   ·refine en_call (int_contains (A:=[SLc o 1 (os.map i64)]) o os (Rd.sl .here (by simp[hon])) (by omega) a) tks ?_
    rintro x' M ⟨rfl,rfl⟩
    try simp only[lca,lna]
    refine en_br (fun h3=> ?_) (fun h3=> ?_)
    ·have h3:a∉os:=by simpa using h3
     refine en_appI (s:=o) (xs:=os) appInt tk (by omega) fun r hr=> ?_
     refine Tr.take (A:=blk b1 [.pointer (some ⟨c,0,none⟩)]) tk (Tr.take (A:=SLc r 1 ((os++[a]).map i64)) tk ?_)
     exact go r _ (by unfold pend1;rw[if_pos ⟨h2,h3⟩])
    ·have h3:a∈os:=by simpa using h3
     refine Tr.take (A:=blk b1 [.pointer (some ⟨c,0,none⟩)]) tk (Tr.take (A:=SLc o 1 (os.map i64)) tk ?_)
     exact go o _ (by unfold pend1;rw[if_neg (fun g=>g.2 h3)])
   ·refine Tr.take (A:=blk b1 [.pointer (some ⟨c,0,none⟩)]) tk (Tr.take (A:=SLc o 1 (os.map i64)) tk ?_)
    exact go o _ (by unfold pend1;rw[if_neg (fun g=>by rw[h2]at g;cases g.1)])
  ·replace h:¬i<(x.fi.n:Int):=of_decide_eq_false h
   rw[List.take_of_length_le (by omega)]at hpl hon⊢
   generalize pendOf S q.m fs=os at*
   refine en_ld (k:= .ptr) (b:=b1) (off:=0) (x:=some ⟨c,0,none⟩) (by rw[fa_mk]) tk rfl ?_
   refine en_nn ?_
   refine en_ld (k:= .ptr) (b:=c) (off:=0) (x:=some ⟨t,0,none⟩) (by rw[fa_mk]) tk rfl ?_
   refine en_call (mark_markR (A:=[SLc o 1 (os.map i64)]) t p room hroom S cs hw q H o os (Rd.sl .here (by simp[hon])) (by omega)) tks ?_
   rintro x' M ⟨q2,rfl,H2,hq2⟩
   try simp only[lca,lna]
   exact en_rets (x:=o) rfl ⟨q2,rfl,H2,hq2⟩ tks ens
end Go.Proofs.YtfepdmpplahloaaGreat
namespace Go.Proofs.YtfepdmpplahloaaGreat
open Go Go.Gl
variable{ρ0 ρ:FR}{L L':List Asn}{Post:Value→List Asn→Prop}{T:Tree}
def rfAt(S:Spc)(h:Hd)(a:Int):Rf6:=(a,h.c,(Ob.get S a 0).1,(Ob.get S a 1).1,(Ob.get S a 3).1,(Ob.get S a 4).1,())
theorem ref_n{h:Hd}(hm:Sp.mayH h=true)(hk:h.k=4):h.n=5:=by
 unfold Sp.mayH at hm
 rw[if_neg (by omega),if_neg (by omega)]at hm
 simp at hm
 omega
theorem at1_ref{S:Spc}{cs:List Cls}(hw:HWf S cs){a:Int}{h:Hd}(hh:Ob.head S a=some h)(hk:h.k=4):ref1 (Ob.at1 S a)=some (rfAt S h a):=by
 obtain⟨_,_,_,_,_,g,_⟩:=Ob.head_is hw hh
 have hn:=ref_n g hk
 unfold Ob.at1
 rw[hh]
 unfold ref1
 dsimp only
 rw[if_pos hk,hn]
 rfl
theorem mem_refsOf{S:Spc}{cs:List Cls}(hw:HWf S cs){r:Rf6}:r∈refsOf S↔∃h,Ob.head S r.1=some h∧h.k=4∧r=rfAt S h r.1:=by
 unfold refsOf Ob.objs
 rw[List.mem_filterMap]
 constructor
 ·rintro⟨o,ho,hr⟩
  obtain⟨a,_,rfl⟩:=List.mem_map.mp ho
  cases hh:Ob.head S a with
  |none=>
   unfold Ob.at1 at hr
   rw[hh]at hr
   simp[ref1]at hr
  |some h=>
   by_cases hk:h.k=4
   ·rw[at1_ref hw hh hk]at hr
    injection hr with hr
    subst hr
    exact⟨h,hh,hk,rfl⟩
   ·unfold Ob.at1 at hr
    rw[hh]at hr
    simp[ref1,hk]at hr
 ·rintro⟨h,hh,hk,hr⟩
  obtain⟨n,w,e,hf,_⟩:=Ob.head_is hw hh
  refine⟨Ob.at1 S r.1,List.mem_map.mpr ⟨r.1,(mem_each hw.wf).mpr ⟨n,w,e,hf⟩,rfl⟩,?_⟩
  rw[at1_ref hw hh hk,←hr]
theorem refs_few{S:Spc}{cs:List Cls}(hw:HWf S cs):(refsOf S).length<2^14:=by
 have:=Sp.each_len hw.wf
 refine Nat.lt_of_le_of_lt (List.length_filterMap_le _ _) ?_
 unfold Ob.objs;rw[List.length_map];omega
theorem srt_pw{l:List Rf6}(h:Srt6 0 l.length l):l.Pairwise fun a b=>key6 a≤key6 b:=by
 rw[List.pairwise_iff_getElem]
 intro i j hi hj hij
 have:=h i j (by omega) hij hj
 rw[List.getD_eq_getElem?_getD,List.getD_eq_getElem?_getD,List.getElem?_eq_getElem hi,List.getElem?_eq_getElem hj]at this
 exact this
theorem SoftR.mono{S:Spc}{cs:List Cls}{l l':List Rf6}{x x':In7}{R R':Int→Prop}(hl:∀r∈l,r∈l')(hx:x.all=x'.all∧x.clock=x'.clock∧x.free=x'.free∧x.rate=x'.rate)(hR:∀a,R a→R' a){a:Int}(h:SoftR S cs l x R a):SoftR S cs l' x' R' a:=by
 induction h with
 |base h=>exact .base (hR _ h)
 |keep hr h1 h2 _ h4 ho ha ih=>
  obtain⟨e1,e2,e3,e4⟩:=hx
  exact .keep (hl _ hr) h1 (by rw[←e1];exact h2) ih (by rw[←e2,←e3,←e4];exact h4) ho ha
structure Coll(S:Spc)(cs:List Cls)(x:In7)(ro fs:List Int)(l:List Rf6)(m2 m3:List Bool):Prop where
 perm:l.Perm (refsOf S)
 srt:l.Pairwise fun a b=>key6 a≤key6 b
 c2:Mk.Closed S cs m2
 c3:Mk.Closed S cs m3
 has2:∀a,Sp.has m2 a=true↔SoftR S cs (refsOf S) x (Mk.Rch S cs ro) a
 has3:∀a,Sp.has m3 a=true↔(Sp.has m2 a=true∨Mk.Rch S cs (pendOf S m2 fs) a)
def putOf(S:Spc)(m:List Bool)(cl:List Int):List Int:=cl.filter fun a=>Sp.has m a&&decide ((Ob.get S a 1).1>0)
def clrOf(S:Spc)(m2 m3:List Bool)(l:List Rf6):List Int:=clearOf S m2 [1,2] l++clearOf S m3 [3] l
theorem Coll.few{S:Spc}{cs:List Cls}{x:In7}{ro fs:List Int}{l:List Rf6}{m2 m3:List Bool}(hw:HWf S cs)(h:Coll S cs x ro fs l m2 m3):l.length<2^14:=by
 rw[h.perm.length_eq];exact refs_few hw
theorem clear_len{S:Spc}{m:List Bool}{xs:List Int}{l:List Rf6}:(clearOf S m xs l).length≤l.length:=by
 unfold clearOf;rw[List.length_map];exact List.length_filter_le _ _
theorem mem_clear{S:Spc}{m:List Bool}{xs:List Int}{l:List Rf6}{a:Int}:a∈clearOf S m xs l↔∃r∈l,r.1=a∧r.2.1∈xs∧lostB S m r=true:=by
 unfold clearOf
 rw[List.mem_map]
 constructor
 ·rintro⟨r,hr,e⟩
  rw[List.mem_filter,Bool.and_eq_true,decide_eq_true_iff]at hr
  exact⟨r,hr.1,e,hr.2.1,hr.2.2⟩
 ·rintro⟨r,hr,e,h1,h2⟩
  refine⟨r,?_,e⟩
  rw[List.mem_filter,Bool.and_eq_true,decide_eq_true_iff]
  exact⟨hr,h1,h2⟩
theorem lost_iff{S:Spc}{m:List Bool}{r:Rf6}:lostB S m r=true↔(Mk.obj S r.2.2.1∧¬Sp.has m r.2.2.1=true):=by
 unfold lostB Mk.obj
 rw[Bool.and_eq_true,Bool.not_eq_true',Bool.not_eq_true]
theorem mem_pend{S:Spc}{m:List Bool}:∀(fs o:List Int) {a:Int},a∈fs.foldl (pend1 S m) o↔(a∈o∨(a∈fs∧Mk.obj S a∧¬Sp.has m a=true))
 |[],o,a=>by simp
 |b::fs,o,a=>by
  rw[List.foldl_cons,mem_pend fs]
  have e:a∈pend1 S m o b↔(a∈o∨(a=b∧Mk.obj S a∧¬Sp.has m a=true)):=by
   have hi:lostB S m (0,0,b,0,0,0,())=true↔(Mk.obj S b∧¬Sp.has m b=true):=lost_iff
   unfold pend1
   by_cases hc:(Mk.obj S b∧¬Sp.has m b=true)∧b∉o
   ·rw[if_pos ⟨hi.mpr hc.1,hc.2⟩,List.mem_append,List.mem_singleton]
    constructor
    ·rintro(h|rfl)
     ·exact .inl h
     ·exact .inr ⟨rfl,hc.1⟩
    ·rintro(h|h)
     ·exact .inl h
     ·exact .inr h.1
   ·rw[if_neg (fun g=>hc ⟨hi.mp g.1,g.2⟩)]
    constructor
    ·exact .inl
    ·rintro(h|⟨rfl,h⟩)
     ·exact h
     ·by_cases h2:a∈o
      ·exact h2
      ·exact absurd ⟨h,h2⟩ hc
  rw[e,List.mem_cons]
  constructor
  ·rintro((h|⟨h,h2⟩)|⟨h,h2⟩)
   ·exact .inl h
   ·exact .inr ⟨.inl h,h2⟩
   ·exact .inr ⟨.inr h,h2⟩
  ·rintro(h|⟨h|h,h2⟩)
   ·exact .inl (.inl h)
   ·exact .inl (.inr ⟨h,h2⟩)
   ·exact .inr ⟨h,h2⟩
theorem mem_pendOf{S:Spc}{m:List Bool}{fs:List Int}{a:Int}:a∈pendOf S m fs↔(a∈fs∧Mk.obj S a∧¬Sp.has m a=true):=by
 unfold pendOf;rw[mem_pend];simp
namespace Gr
end Gr
end Go.Proofs.YtfepdmpplahloaaGreat
namespace Go.Proofs.YtfepdmpplahloaaGreat
open Go Go.Gl
variable{ρ0 ρ:FR}{L L':List Asn}{Post:Value→List Asn→Prop}{T:Tree}
theorem zcI:zc Tryz.prog 3=[.int .i64 0]:=by kernel_rfl
theorem zcOut:zc Tryz.prog 129=[.slice none 0 0,.slice none 0 0,.slice none 0 0,.slice none 0 0]:=by kernel_rfl
theorem proc_put1(b:Nat)(a:Int)(r:Rf6):Gl.Spec ρ Tryz.prog 183 ([.agg (rc r).toArray]++[.pointer (some ⟨b,0,none⟩)]) [blk b [i64 a]] RB fun v M=>v=(r.1==a)∧M=[blk b [i64 a]]:=by
 refine Spec.of (fun Q w h=>F.proc.common.put_1.calls r (some ⟨b,0,none⟩) h) fun R=> ?_
 obtain⟨r1,r2,r3,r4,r5,r6,⟨⟩⟩:=r
 unfold F.proc.common.put_1
 try simp only[lca,lna]
 refine en_nw fun b1=> ?_
 refine en_ld (k:= .int .i64) (b:=b1) (off:=0) (x:=r1) (by rw[fa_mk]) tk rfl ?_
 refine en_nn ?_
 refine en_ld (k:= .int .i64) (b:=b) (off:=0) (x:=a) rfl tk rfl ?_
 exact en_rets (x:=(r1==a)) rfl ⟨rfl,rfl⟩ tks ens
theorem put_len{S:Spc}{m:List Bool}{xs:List Int}:(putOf S m xs).length≤xs.length:=List.length_filter_le _ _
theorem proc_put{A:List Asn}(c t p room:Nat)(x:In7)(rf:Slc)(l:List Rf6)(hrf:RoS ρ rf 6 (l.flatMap rc))(hl:l.length<2^38)(S:Spc)(cs:List Cls)(hw:HWf S cs)(hp:∀r∈l,r∈refsOf S)(q:Mk.St)(z:Slc)(xs:List Int)(hz:Rd ρ A z 1 (xs.map i64))(hxl:xs.length<2^38)(hin:∀a∈xs,∃r∈l,r.1=a):
  Gl.Spec ρ Tryz.prog 147 [.pointer (some ⟨c,0,none⟩),.slice z.a z.n z.c] (CmA c t p x rf::TrA t p room q::A) RS
  fun r M=>M=SLc r 1 ((putOf S q.m xs).map i64)::CmA c t p x rf::TrA t p room q::A:=by
 refine Spec.of (fun Q w h=>F.proc.common.put.calls (some ⟨c,0,none⟩) z h) fun R=> ?_
 unfold F.proc.common.put
 try simp only[lca,lna]
 have hn:=hz.len
 have hrn:rf.n=l.length:=by
  have:=hrf.1
  rw[flat_len (g:=rc) (m:=6) rc_len]at this
  omega
 refine Tr.nilSL 1 ?_
 refine en_lp (fun m u M=>(fun(o:Slc) (i:Int)=>M=SLc o 1 ((putOf S q.m (xs.take i.toNat)).map i64)::CmA c t p x rf::TrA t p room q::(A++R)∧0≤i∧i≤xs.length∧m=xs.length-i.toNat) u.1 u.2.1) xs.length ?_ ?_
 ·exact⟨rfl,by simp,by dsimp only;omega,by simp⟩
 ·rintro m ⟨(o:Slc),(i:Int),⟨⟩⟩ M ⟨rfl,i0,i1,rfl⟩ X hX
  dsimp only at i0 i1 hX⊢
  refine en_br (fun h=> ?_) (fun h=> ?_)
  ·replace h:i<(z.n:Int):=of_decide_eq_true h
   have hi:i.toNat<xs.length:=by omega
   have ht:xs.take (i+1).toNat=xs.take i.toNat++[xs.getD i.toNat 0]:=by rw[show(i+1).toNat=i.toNat+1 by omega,take_succ_getD 0 hi]
   have hmem:xs.getD i.toNat 0∈xs:=by rw[List.getD_eq_getElem?_getD,List.getElem?_eq_getElem hi];exact List.getElem_mem hi
   have hpl:=put_len (S:=S) (m:=q.m) (xs:=xs.take i.toNat)
   rw[List.length_take]at hpl
   have hstep:putOf S q.m (xs.take (i+1).toNat)=putOf S q.m (xs.take i.toNat)++(if(Sp.has q.m (xs.getD i.toNat 0)&&decide ((Ob.get S (xs.getD i.toNat 0) 1).1>0))=true then[xs.getD i.toNat 0]else[]):=by
    unfold putOf
    rw[ht,List.filter_append]
    congr 1
    by_cases hc:(Sp.has q.m (xs.getD i.toNat 0)&&decide ((Ob.get S (xs.getD i.toNat 0) 1).1>0))=true
    ·rw[if_pos hc,List.filter_cons_of_pos (p:=fun a=>Sp.has q.m a&&decide ((Ob.get S a 1).1>0)) hc];rfl
    ·rw[if_neg hc,List.filter_cons_of_neg (p:=fun a=>Sp.has q.m a&&decide ((Ob.get S a 1).1>0)) hc];rfl
   refine en_getRd hz (Takes.skip1 (Takes.skip1 (Takes.skip1 (Takes.app A R)))) i0 (by omega) ?_
   generalize xs.getD i.toNat 0=a at*
   refine en_nw fun b5=> ?_
   rw[zcI]
   refine en_st (b:=b5) (off:=0) rfl tk (by simp) rfl ?_
   refine en_nn ?_
   refine en_ld (k:= .slice) (b:=c) (off:=9) (x:=rf) (by rw[fa_mk]) tk rfl ?_
   refine en_call (idx_funcR rf l hrf (by omega) (i:= #[]) (c:= #[.pointer (some ⟨b5,0,none⟩)]) (A:=[blk b5 [i64 a]]) (g:=fun r=>r.1==a) Tryz.func183 (by kernel_rfl) (fun r hr=>proc_put1 b5 a r)) tks ?_
   rintro r8 M ⟨hidx,rfl⟩
   try simp only[lca,lna]
   rcases hidx with ⟨rfl,hno⟩|⟨k,rfl,hk,hg⟩
   ·obtain⟨r,hr,e⟩:=hin a hmem
    have:=hno r hr
    dsimp only at this
    rw[e]at this
    simp at this
   have hki:l[k]? =some (l.getD k d6):=by rw[List.getD_eq_getElem?_getD,List.getElem?_eq_getElem hk];rfl
   have hrin:=hp _ (List.mem_of_getElem? hki)
   have hg:(l.getD k d6).1=a:=eq_of_beq hg
   generalize l.getD k d6=r at*
   obtain⟨hd,_,_,hr4⟩:=(mem_refsOf hw).mp hrin
   have hq4:r.2.2.2.1=(Ob.get S a 1).1:=by rw[hr4,hg];rfl
   refine en_drw (en_held [CmA c t p x rf,blk b5 [i64 a]] tks ?_)
   refine en_nn ?_
   refine en_ldS (k:= .ptr) (b:=c) (off:=0) (x:=some ⟨t,0,none⟩) (by rw[fa_mk]) tk rfl ?_
   refine en_ldS (k:= .int .i64) (b:=b5) (off:=0) (x:=a) rfl tk rfl ?_
   refine en_call (mark_marked t p room q a) tks ?_
   rintro x' M ⟨rfl,rfl⟩
   try simp only[lca,lna]
   refine en_chk tks (en_cut [CmA c t p x rf,blk b5 [i64 a]] tks (fun w h=>h) ?_)
   rw[wrap64 (n:=i+1) (by omega) (by omega)]
   have go:∀(o':Slc) (os:List Int),os=putOf S q.m (xs.take (i+1).toNat)→Tr ρ ρ (SLc o' 1 (os.map i64)::CmA c t p x rf::TrA t p room q::(A++R)) (X (o',i+1,())) (SP RS (fun r M=>M=SLc r 1 ((putOf S q.m xs).map i64)::CmA c t p x rf::TrA t p room q::A) R):=fun o' os e=>by
    refine hX (xs.length-(i+1).toNat) _ _ (by omega) ⟨?_,by dsimp only;omega,by dsimp only;omega,rfl⟩
    dsimp only
    rw[e]
   refine en_br (fun h2=> ?_) (fun h2=> ?_)
   ·refine en_nn ?_
    refine en_ldS (k:= .slice) (b:=c) (off:=9) (x:=rf) (by rw[fa_mk]) tk rfl ?_
    refine en_ixRo hrf (by omega) (by omega) fun a0 ha=> ?_
    rw[Int.toNat_natCast]
    refine en_ldRoS (k:= .int .i64) (j:=k*6+3) (x:=r.2.2.2.1) ha hrf (by rintro b o rfl;rw[fa_mk,fa_mk,Nat.add_assoc]) (by rw[flat_get (g:=rc) (m:=6) rc_len hki (by omega)];rfl) ?_
    rw[hq4]
    refine en_br (fun h3=> ?_) (fun h3=> ?_)
    ·refine en_ld (k:= .int .i64) (b:=b5) (off:=0) (x:=a) rfl tk rfl ?_
     refine en_appI (s:=o) (xs:=putOf S q.m (xs.take i.toNat)) appInt tk (by omega) fun r hr=> ?_
     refine Tr.drop (A:=blk b5 [i64 a]) tk ?_
     refine Tr.take (A:=TrA t p room q) tk (Tr.take (A:=CmA c t p x rf) tk (Tr.take (A:=SLc r 1 ((putOf S q.m (xs.take i.toNat)++[a]).map i64)) tk ?_))
     exact go r _ (by rw[hstep,if_pos (by rw[h2,h3];rfl)])
    ·refine Tr.drop (A:=blk b5 [i64 a]) tk ?_
     refine Tr.take (A:=TrA t p room q) tk (Tr.take (A:=CmA c t p x rf) tk (Tr.take (A:=SLc o 1 ((putOf S q.m (xs.take i.toNat)).map i64)) tk ?_))
     exact go o _ (by rw[hstep,if_neg (by rw[h3];simp),List.append_nil])
   ·refine Tr.drop (A:=blk b5 [i64 a]) tk ?_
    refine Tr.take (A:=TrA t p room q) tk (Tr.take (A:=CmA c t p x rf) tk (Tr.take (A:=SLc o 1 ((putOf S q.m (xs.take i.toNat)).map i64)) tk ?_))
    exact go o _ (by rw[hstep,if_neg (by rw[h2];simp),List.append_nil])
  ·replace h:¬i<(z.n:Int):=of_decide_eq_false h
   rw[List.take_of_length_le (by omega)]
   exact en_rets (x:=o) rfl rfl (.cons .here (.cons .here (.cons .here (Takes.app A R)))) ens
end Go.Proofs.YtfepdmpplahloaaGreat
namespace Go.Proofs.YtfepdmpplahloaaGreat
open Go Go.Gl
variable{ρ0 ρ:FR}{L L':List Asn}{Post:Value→List Asn→Prop}{T:Tree}
abbrev OutL:List LK:=[.slice,.slice,.slice,.slice]
abbrev OE:RK:= .many [.g OutL,.l (.int .i64)]
abbrev inV(x:In7):Value:= .agg #[.slice x.ro.a x.ro.n x.ro.c,.slice x.fi.a x.fi.n x.fi.c,.int .i64 x.clock,.int .i64 x.free,.int .i64 x.rate,.bool x.all,.int .i64 x.stack]
abbrev inT(x:In7):LTs [.slice,.slice,.int .i64,.int .i64,.int .i64,.bool,.int .i64]:=(x.ro,x.fi,x.clock,x.free,x.rate,x.all,x.stack,())
abbrev inC(x:In7):List Value:=[.slice x.ro.a x.ro.n x.ro.c,.slice x.fi.a x.fi.n x.fi.c,.int .i64 x.clock,.int .i64 x.free,.int .i64 x.rate,.bool x.all,.int .i64 x.stack]
theorem pend_le{S:Spc}{m:List Bool}{fs:List Int}:(pendOf S m fs).length≤fs.length:=by
 have:=pend_len S m fs []
 simpa[pendOf]using this
theorem proc_process(p:Nat)(S:Spc)(cs:List Cls)(hw:HWf S cs)(x:In7)(hx:x.Ok)(ro fs:List Int)(hro:RoS ρ x.ro 1 (ro.map i64))(hfi:RoS ρ x.fi 1 (fs.map i64))(hl1:ro.length<2^30)(hl2:fs.length<2^30)
  (hst:∀r∈refsOf S,r.2.2.2.2.1<9223372036854775808) (hs:1≤x.stack∧x.stack≤4096):
  Gl.Spec ρ Tryz.prog 110 [.pointer (some ⟨p,0,none⟩),inV x] [HeapA p S cs] OE
  fun r M=>∃(s1 s2 s3 s4:Slc) (l:List Rf6) (m2 m3:List Bool),r=((s1,s2,s3,s4,()),0,())∧Coll S cs x ro fs l m2 m3∧
   M=[SLc s1 1 ((clrOf S m2 m3 l).map i64),SLc s2 1 ((putOf S m3 (clrOf S m2 m3 l)).map i64),SLc s3 1 ((pendOf S m2 fs).map i64),SLc s4 1 ((Mk.all m3).map i64),HeapA p S cs]:=by
 refine Spec.of (fun Q w h=>F.proc.Process.calls (some ⟨p,0,none⟩) (inT x) h) fun R=> ?_
 unfold F.proc.Process
 try simp only[lca,lna]
 have hroom:x.stack.toNat≤4096:=by omega
 have hwl:=hw.wf.len
 have hwm:=hw.wf.most
 refine en_nw fun b1=>en_nw fun b2=> ?_
 refine en_ld (k:= .int .i64) (b:=b1) (off:=6) (x:=x.stack) (by rw[fa_mk]) tk rfl ?_
 refine en_call (mark_new p S cs hw x.stack hs.1 hs.2) tks ?_
 rintro x' M ⟨t,rfl,rfl⟩
 try simp only[lca,lna]
 refine en_brf rfl ?_
 refine en_drw (en_held [blk b1 (inC x)] tks ?_)
 refine en_ldgS (b:=b1) (off:=0) (x:=inT x) [] rfl tk rfl ?_
 refine en_call (proc_refs p S cs hw) tks ?_
 rintro rf M ⟨l,rfl,hp,hsr⟩
 try simp only[lca,lna]
 refine en_chk tks ?_
 have hll:l.length<2^14:=by rw[hp.length_eq];exact refs_few hw
 have hlm:∀r,r∈l↔r∈refsOf S:=fun r=>hp.mem_iff
 refine en_nw fun b8=> ?_
 refine Tr.keepSL (s:=rf) tk fun ρ1 hle1 hrf=> ?_
 replace hro:=hro.le hle1
 replace hfi:=hfi.le hle1
 refine en_drw ?_
 refine en_ld (k:= .ptr) (b:=b8) (off:=0) (x:=some ⟨t,0,none⟩) (by rw[fa_mk]) tk rfl ?_
 refine en_ld (k:= .slice) (b:=b1) (off:=0) (x:=x.ro) (by rw[fa_mk]) tk rfl ?_
 refine en_call (mark_mark t p x.stack.toNat hroom S cs hw _ Mk.rest0 x.ro ro hro (by omega)) tks ?_
 rintro x' M ⟨q1,rfl,H1,hq1⟩
 try simp only[lca,lna]
 refine en_call (proc_softly b8 t p x.stack.toNat hroom x hx rf l hrf (by omega) (fun r hr=>hst r ((hlm r).mp hr)) S cs hw q1 H1) tks ?_
 rintro x' M ⟨q2,rfl,H2,hq2⟩
 try simp only[lca,lna]
 refine en_nw fun b13=> ?_
 rw[zcOut]
 refine en_nw fun b14=> ?_
 refine Rd.bk (n:=2) (m:=1) (vs:=([1,2]:List Int).map i64) rfl tk fun ρ2 hle2 ro2=> ?_
 replace hrf:=hrf.le hle2
 replace hfi:=hfi.le hle2
 refine en_call (proc_cleared b8 t p x.stack.toNat x rf l hrf (by omega) S cs hw q2 ⟨some ⟨b14,0,none⟩,2,2⟩ [1,2] ro2 (by decide)) tks ?_
 rintro r15 M rfl
 try simp only[lca,lna]
 refine en_st (b:=b13) (off:=0) rfl tk (by simp) rfl ?_
 refine Tr.take (A:=blk b13 [.slice r15.a r15.n r15.c,.slice none 0 0,.slice none 0 0,.slice none 0 0]) tk ?_
 refine en_call (proc_finals b8 t p x.stack.toNat hroom x rf fs hfi hl2 S cs hw q2 H2) tks ?_
 rintro r16 M ⟨q3,rfl,H3,hq3⟩
 try simp only[lca,lna]
 refine en_st (b:=b13) (off:=2) rfl tk (by simp) rfl ?_
 refine Tr.take (A:=blk b13 [.slice r15.a r15.n r15.c,.slice none 0 0,.slice r16.a r16.n r16.c,.slice none 0 0]) tk ?_
 refine en_drw (en_held [blk b13 [.slice r15.a r15.n r15.c,.slice none 0 0,.slice r16.a r16.n r16.c,.slice none 0 0]] tks ?_)
 refine en_ldS (k:= .slice) (b:=b13) (off:=0) (x:=r15) (by rw[fa_mk]) tk rfl ?_
 refine en_nw fun b19=>en_chk tks ?_
 refine Rd.bk (n:=1) (m:=1) (vs:=([3]:List Int).map i64) rfl tk fun ρ3 hle3 ro3=> ?_
 replace hrf:=hrf.le hle3
 refine en_call (proc_cleared b8 t p x.stack.toNat x rf l hrf (by omega) S cs hw q3 ⟨some ⟨b19,0,none⟩,1,1⟩ [3] ro3 (by decide)) tks ?_
 rintro r20 M rfl
 try simp only[lca,lna]
 refine en_chkW hle3 tks ?_
 have hc2:=clear_len (S:=S) (m:=q2.m) (xs:=[1,2]) (l:=l)
 have hc3:=clear_len (S:=S) (m:=q3.m) (xs:=[3]) (l:=l)
 refine Tr.nlen (s:=r20) (xs:=clearOf S q3.m [3] l) tk fun hn20=> ?_
 refine en_appS (s:=r15) (x:=r20) (xs:=clearOf S q2.m [1,2] l) (ys:=clearOf S q3.m [3] l) appInt tk (Rd.sl tk (by simp[hn20])) (by omega) fun r21 h21=> ?_
 refine en_st (b:=b13) (off:=0) rfl tk (by simp) rfl ?_
 refine Tr.take (A:=blk b13 [.slice r21.a r21.n r21.c,.slice none 0 0,.slice r16.a r16.n r16.c,.slice none 0 0]) tk ?_
 refine en_ld (k:= .slice) (b:=b13) (off:=0) (x:=r21) (by rw[fa_mk]) tk rfl ?_
 refine en_call (proc_put (A:=[SLc r21 1 ((clearOf S q2.m [1,2] l++clearOf S q3.m [3] l).map i64)]) b8 t p x.stack.toNat x rf l hrf (by omega) S cs hw (fun r hr=>(hlm r).mp hr) q3 r21 (clearOf S q2.m [1,2] l++clearOf S q3.m [3] l) (Rd.sl .here (by simp[h21])) (by rw[List.length_append];omega) (fun a ha=> ?_)) tks ?_
 ·rcases List.mem_append.mp ha with ha|ha
  ·obtain⟨r,hr,e,_⟩:=mem_clear.mp ha
   exact⟨r,hr,e⟩
  ·obtain⟨r,hr,e,_⟩:=mem_clear.mp ha
   exact⟨r,hr,e⟩
 rintro r23 M rfl
 try simp only[lca,lna]
 refine en_st (b:=b13) (off:=1) rfl tk (by simp) rfl ?_
 refine Tr.take (A:=blk b13 [.slice r21.a r21.n r21.c,.slice r23.a r23.n r23.c,.slice r16.a r16.n r16.c,.slice none 0 0]) tk ?_
 refine en_ld (k:= .ptr) (b:=b8) (off:=0) (x:=some ⟨t,0,none⟩) (by rw[fa_mk]) tk rfl ?_
 have hl3:=H3.closed.len
 refine en_call (mark_all t p x.stack.toNat q3 (by omega)) tks ?_
 rintro r25 M rfl
 try simp only[lca,lna]
 refine en_st (b:=b13) (off:=3) rfl tk (by simp) rfl ?_
 refine Tr.take (A:=blk b13 [.slice r21.a r21.n r21.c,.slice r23.a r23.n r23.c,.slice r16.a r16.n r16.c,.slice r25.a r25.n r25.c]) tk ?_
 refine en_ldg (b:=b13) (off:=0) (x:=((r21,r23,r16,r25,()):LTs OutL)) [] rfl tk rfl ?_
 refine en_st (b:=b2) (off:=0) rfl tk (by simp) rfl ?_
 refine Tr.take (A:=blk b2 [.slice r21.a r21.n r21.c,.slice r23.a r23.n r23.c,.slice r16.a r16.n r16.c,.slice r25.a r25.n r25.c]) tk ?_
 refine en_ldg (b:=b2) (off:=0) (x:=((r21,r23,r16,r25,()):LTs OutL)) [] rfl tk rfl ?_
 refine en_rets (x:=((r21,r23,r16,r25,()),(0:Int),())) rfl ⟨r21,r23,r16,r25,l,q2.m,q3.m,rfl,⟨hp,srt_pw hsr,H2.closed,H3.closed,fun a=> ?_,hq3⟩,rfl⟩ tks ens
 rw[hq2 a]
 have e1:∀a,Sp.has q1.m a=true↔Mk.Rch S cs ro a:=fun a=>by
  rw[hq1 a,Mk.has0];simp
 exact⟨SoftR.mono (fun r hr=>(hlm r).mp hr) ⟨rfl,rfl,rfl,rfl⟩ fun a h=>(e1 a).mp h,SoftR.mono (fun r hr=>(hlm r).mpr hr) ⟨rfl,rfl,rfl,rfl⟩ fun a h=>(e1 a).mpr h⟩
end Go.Proofs.YtfepdmpplahloaaGreat
