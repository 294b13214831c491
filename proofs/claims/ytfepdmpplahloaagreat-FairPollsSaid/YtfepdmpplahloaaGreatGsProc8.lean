/- Soft Proc Proc2 Proc3 Proc4 Proc5 Proc6 Col Proc7 Proc8. -/
import Derived.Test.YtfepdmpplahloaaGreatGsStab5
import Derived.Test.YtfepdmpplahloaaGreatGsGraph2
import Derived.Test.YtfepdmpplahloaaGreatGsMark5
set_option linter.unusedSimpArgs false
set_option linter.unusedVariables false
namespace Go.Proofs.YtfepdmpplahloaaGreat
open Go Go.Gl
variable{ρ0 ρ:FR}{L L':List aA}{Post:Value→List aA→Prop}{T:Tree}
theorem xm{n:Int}(h0:0≤n):IntKind.wrap .u64 n=n%18446744073709551616:=by
 unfold IntKind.wrap IntKind.bits IntKind.signed
 simp only[Bool.false_and,Bool.false_eq_true,if_false]
 omega
theorem o6{x:Int}(h0:0≤x)(h1:x<18446744073709551616):dv .and .u64 x 4294967295=x%4294967296:=by
 obtain⟨n,rfl⟩:=Int.eq_ofNat_of_zero_le h0
 unfold dv
 dsimp only
 have e:(BitVec.ofInt (IntKind.bits .u64) (n:Int)&&& BitVec.ofInt (IntKind.bits .u64) 4294967295).toNat=n%4294967296:=by
  rw[BitVec.toNat_and,BitVec.toNat_ofInt,BitVec.toNat_ofInt]
  have a1:((n:Int)%((2^IntKind.bits .u64:Nat):Int)).toNat=n:=by
   have:((2^IntKind.bits .u64:Nat):Int)=18446744073709551616:=by decide
   rw[this];omega
  have a2:((4294967295:Int)%((2^IntKind.bits .u64:Nat):Int)).toNat=2^32-1:=by decide
  rw[a1,a2,Nat.and_two_pow_sub_one_eq_mod]
 rw[e,eb (by omega) (by omega)]
 omega
theorem oN{a b:Int}(a0:0≤a)(a1:a≤4294967295)(b0:0≤b)(b1:b≤4294967295):0≤a*b∧a*b≤18446744065119617025:=
 ⟨Int.mul_nonneg a0 b0,Int.le_trans (Int.mul_le_mul a1 b1 b0 (by omega)) (by decide)⟩
abbrev U2:RK:= .many [.l (.int .u64),.l (.int .u64)]
theorem Ao(x y:Int)(x0:0≤x)(x1:x<9223372036854775808)(y0:0≤y)(y1:y<9223372036854775808):Gl.Spec ρ Tryz.prog 228 [.int .u64 x,.int .u64 y] [] U2
  fun r M=>r=(x*y/18446744073709551616,x*y%18446744073709551616,())∧M=[]:=by
 refine Spec.of (fun Q w h=>F.bits.wy.calls x y h) fun R=> ?_
 unfold F.bits.wy
 try simp only[aq,al]
 refine bu (by decide) (bu (by decide) (bu (by decide) (bu (by decide) (bu (by decide) ?_))))
 have e:(2^(min (32:Int).toNat (IntKind.bits .u64)):Int)=4294967296:=by decide
 have fd:∀a:Int,Int.fdiv a (2^(min (32:Int).toNat (IntKind.bits .u64)))=a/4294967296:=fun a=>by rw[e];exact Int.fdiv_eq_ediv_of_nonneg _ (by decide)
 simp only[fd]
 rw[o6 x0 (by omega),o6 y0 (by omega),xm (Int.mul_nonneg x0 y0)]
 obtain⟨xh,hxh⟩:∃z,z=x/4294967296:=⟨_,rfl⟩
 obtain⟨xl,hxl⟩:∃z,z=x%4294967296:=⟨_,rfl⟩
 obtain⟨yh,hyh⟩:∃z,z=y/4294967296:=⟨_,rfl⟩
 obtain⟨yl,hyl⟩:∃z,z=y%4294967296:=⟨_,rfl⟩
 rw[←hxh,←hxl,←hyh,←hyl]
 have hx:x=xh*4294967296+xl:=by omega
 have hy:y=yh*4294967296+yl:=by omega
 have b1:=oN (a:=xh) (b:=yh) (by omega) (by omega) (by omega) (by omega)
 have b2:=oN (a:=xh) (b:=yl) (by omega) (by omega) (by omega) (by omega)
 have b3:=oN (a:=xl) (b:=yh) (by omega) (by omega) (by omega) (by omega)
 have b4:=oN (a:=xl) (b:=yl) (by omega) (by omega) (by omega) (by omega)
 have hxy:x*y=xh*yh*18446744073709551616+(xh*yl+xl*yh)*4294967296+xl*yl:=by
  have t1:xh*4294967296*(yh*4294967296)=xh*yh*18446744073709551616:=by
   rw[Int.mul_assoc,Int.mul_left_comm 4294967296 yh,←Int.mul_assoc xh yh];rfl
  have t2:xh*4294967296*yl=xh*yl*4294967296:=Int.mul_right_comm _ _ _
  have t3:xl*(yh*4294967296)=xl*yh*4294967296:=(Int.mul_assoc _ _ _).symm
  rw[hx,hy,Int.add_mul,Int.mul_add,Int.mul_add,t1,t2,t3,Int.add_mul]
  omega
 have hpos:=Int.mul_nonneg x0 y0
 have hlt:x*y<18446744073709551616*9223372036854775808:=by
  have:=Int.mul_le_mul (show x≤9223372036854775808 by omega) (show y≤9223372036854775808 by omega) y0 (by omega)
  omega
 rw[hxy]at hpos hlt⊢
 generalize xh*yh=a at*
 generalize xh*yl=b at*
 generalize xl*yh=c at*
 generalize xl*yl=d at*
 refine aa (x:=((a*18446744073709551616+(b+c)*4294967296+d)/18446744073709551616,(a*18446744073709551616+(b+c)*4294967296+d)%18446744073709551616,())) ?_ ⟨rfl,rfl⟩ ag aB
 rw[eb (n:=d) (by omega) (by omega),eb (n:=b) (by omega) (by omega),eb (n:=a) (by omega) (by omega),eb (n:=c) (by omega) (by omega),eb (n:=b+d/4294967296) (by omega) (by omega),o6 (x:=b+d/4294967296) (by omega) (by omega)]
 rw[eb (n:=(b+d/4294967296)%4294967296+c) (by omega) (by omega),eb (n:=a+(b+d/4294967296)/4294967296) (by omega) (by omega),eb (by omega) (by omega)]
 have e2:a+(b+d/4294967296)/4294967296+((b+d/4294967296)%4294967296+c)/4294967296=(a*18446744073709551616+(b+c)*4294967296+d)/18446744073709551616:=by omega
 rw[e2];rfl
def Sf.none(n:Int):Int:=if n>0 then n else 0
def Sf.idle(c s:Int):Int:=Sf.none (Sf.none c-Sf.none s)
def Sf.wN(f r:Int):Int:=if Sf.none f*Sf.none r>9223372036854775807 then 9223372036854775807 else Sf.none f*Sf.none r
def Sf.fv(c s f r:Int):Bool:=decide (Sf.idle c s≤Sf.wN f r)
theorem fC(n:Int):Gl.Spec ρ Tryz.prog 159 [i64 n] [] R1 fun r M=>r=Sf.none n∧M=[]:=by
 refine Spec.of (fun Q w h=>F.soft.none.calls n h) fun R=> ?_
 unfold F.soft.none
 try simp only[aq,al]
 exact aa (x:=Sf.none n) rfl ⟨rfl,rfl⟩ ag aB
theorem fN{n:Int}(h:n<9223372036854775808):0≤Sf.none n∧Sf.none n<9223372036854775808:=by
 unfold Sf.none;split<;>omega
theorem xW(c s:Int)(hc:c<9223372036854775808)(hs:s<9223372036854775808):Gl.Spec ρ Tryz.prog 222 [i64 c,i64 s] [] R1 fun r M=>r=Sf.idle c s∧M=[]:=by
 refine Spec.of (fun Q w h=>F.soft.Idle.calls c s h) fun R=> ?_
 unfold F.soft.Idle
 try simp only[aq,al]
 have h1:=fN hc
 have h2:=fN hs
 refine ae (fC c) ag ?_
 rintro x' M ⟨rfl,rfl⟩
 try simp only[aq,al]
 refine ae (fC s) ag ?_
 rintro x' M ⟨rfl,rfl⟩
 try simp only[aq,al]
 rw[wrap64 (by omega) (by omega)]
 refine ae (fC (Sf.none c-Sf.none s)) ag ?_
 rintro x' M ⟨rfl,rfl⟩
 try simp only[aq,al]
 exact aa (x:=Sf.idle c s) rfl ⟨rfl,rfl⟩ ag aB
theorem vb(f r:Int)(hf:f<9223372036854775808)(hr:r<9223372036854775808):Gl.Spec ρ Tryz.prog 223 [i64 f,i64 r] [] R1 fun x M=>x=Sf.wN f r∧M=[]:=by
 refine Spec.of (fun Q w h=>F.soft.wg.calls f r h) fun R=> ?_
 unfold F.soft.wg
 try simp only[aq,al]
 have h1:=fN hf
 have h2:=fN hr
 refine ae (fC f) ag ?_
 rintro x' M ⟨rfl,rfl⟩
 try simp only[aq,al]
 refine ae (fC r) ag ?_
 rintro x' M ⟨rfl,rfl⟩
 try simp only[aq,al]
 unfold Sf.wN
 generalize Sf.none f=x at*
 generalize Sf.none r=y at*
 rw[eb (n:=x) (by omega) (by omega),eb (n:=y) (by omega) (by omega)]
 refine ae (Ao x y h1.1 h1.2 h2.1 h2.2) ag ?_
 rintro x' M ⟨rfl,rfl⟩
 try simp only[aq,al]
 have hp:=Int.mul_nonneg h1.1 h2.1
 generalize x*y=z at*
 refine aj (fun h=> ?_) (fun h=> ?_)
 ·replace h:z/18446744073709551616>0:=of_decide_eq_true h
  rw[if_pos (by omega)]
  exact aa (x:=(9223372036854775807:Int)) rfl ⟨rfl,rfl⟩ ag aB
 ·replace h:¬z/18446744073709551616>0:=of_decide_eq_false h
  refine aj (fun h3=> ?_) (fun h3=> ?_)
  ·replace h3:z%18446744073709551616>9223372036854775807:=of_decide_eq_true h3
   rw[if_pos (by omega)]
   exact aa (x:=(9223372036854775807:Int)) rfl ⟨rfl,rfl⟩ ag aB
  ·replace h3:¬z%18446744073709551616>9223372036854775807:=of_decide_eq_false h3
   rw[if_neg (by omega),show z%18446744073709551616=z by omega,wrap64 (by omega) (by omega)]
   exact aa (x:=z) rfl ⟨rfl,rfl⟩ ag aB
theorem xo(c s f r:Int)(hc:c<9223372036854775808)(hs:s<9223372036854775808)(hf:f<9223372036854775808)(hr:r<9223372036854775808):Gl.Spec ρ Tryz.prog 208 [i64 c,i64 s,i64 f,i64 r] [] RB fun x M=>x=Sf.fv c s f r∧M=[]:=by
 refine Spec.of (fun Q w h=>F.soft.Cl.calls c s f r h) fun R=> ?_
 unfold F.soft.Cl
 try simp only[aq,al]
 refine ae (xW c s hc hs) ag ?_
 rintro x' M ⟨rfl,rfl⟩
 try simp only[aq,al]
 refine ae (vb f r hf hr) ag ?_
 rintro x' M ⟨rfl,rfl⟩
 try simp only[aq,al]
 exact aa (x:=Sf.fv c s f r) rfl ⟨rfl,rfl⟩ ag aB
end Go.Proofs.YtfepdmpplahloaaGreat
namespace Go.Proofs.YtfepdmpplahloaaGreat
open Go Go.Gl
variable{ρ0 ρ:FR}{L L':List aA}{Post:Value→List aA→Prop}{T:Tree}
def Ff(g:bW→Bool)(l:List bW)(r:Int):Prop:=(r= -1∧∀x∈l,g x=false)∨∃k:Nat,r=k∧k<l.length∧g (l.getD k d6)=true
theorem qM(s:ay)(l:List bW)(hs:eX ρ s 6 (l.flatMap rc))(hl:l.length<2^62){f:FuncId}{fn:Func}{i c:Array Value}{A:List aA}{g:bW→Bool}(hf:Tryz.prog.funcs[f]? =some fn)(hb:fn.body.isSome=true)
  (hg:∀x∈l,Gl.Spec ρ Tryz.prog f (i.toList++[.agg (rc x).toArray]++c.toList) A RB fun r M=>r=g x∧M=A):
  Gl.Spec ρ Tryz.prog 180 [.slice s.a s.n s.c,.func (.func f) i c] A R1 fun r M=>Ff g l r∧M=A:=by
 refine Spec.of (fun Q w h=>F.av.fp.calls s (.func (.func f) i c) h) fun R=> ?_
 unfold F.av.fp
 have hn:s.n=l.length:=by
  have:=hs.1
  rw[gM (g:=rc) (m:=6) dQ]at this
  omega
 refine aP (fun n u M=>(fun j:Int=>M=A++R∧0≤j∧j≤l.length∧n=l.length-j.toNat∧∀x∈l.take j.toNat,g x=false) u.1) l.length ?_ ?_
 ·exact⟨rfl,by simp,by dsimp only;omega,by simp,by simp⟩
 ·rintro n ⟨(j:Int),⟨⟩⟩ M ⟨rfl,j0,j1,rfl,hno⟩ X hX
  dsimp only at j0 j1 hno hX⊢
  refine aj (fun h=> ?_) (fun h=> ?_)
  ·replace h:j<(s.n:Int):=of_decide_eq_true h
   have hj:j.toNat<l.length:=by omega
   have hj2:l[j.toNat]? =some (l.getD j.toNat d6):=by rw[List.getD_eq_getElem?_getD,List.getElem?_eq_getElem hj];rfl
   have hin:l.getD j.toNat d6∈l:=List.mem_of_getElem? hj2
   refine bJ hs j0 h fun a0 ha=> ?_
   refine sB (x:=l.getD j.toNat d6) ha hs (j:=j.toNat*6) (by rintro b o rfl;simp[af]) (fun e v he=> ?_) ?_
   ·have hlt:e<6:=(List.getElem?_eq_some_iff.1 he).1
    rw[Nat.add_zero,eO (g:=rc) (m:=6) dQ hj2 hlt];exact he
   refine lW hf hb (hg _ hin) (aI.app _ _) ?_
   rintro r M ⟨rfl,rfl⟩
   refine aj (fun h2=> ?_) (fun h2=> ?_)
   ·exact aa (x:=j) rfl ⟨.inr ⟨j.toNat,(show(j:Int)=((j.toNat:Nat):Int) by omega),hj,h2⟩,rfl⟩ (aI.app _ _) .refl
   ·rw[wrap64 (n:=j+1) (by omega) (by omega)]
    refine hX (l.length-(j+1).toNat) _ _ (by omega) ⟨rfl,by dsimp only;omega,by dsimp only;omega,rfl,fun x hx=> ?_⟩
    dsimp only at hx
    rw[show(j+1).toNat=j.toNat+1 by omega,aJ d6 hj]at hx
    rcases List.mem_append.mp hx with hx|hx
    ·exact hno x hx
    ·rw[List.mem_singleton]at hx;rw[hx];exact h2
  ·replace h:¬j<(s.n:Int):=of_decide_eq_false h
   rw[List.take_of_length_le (by omega)]at hno
   exact aa (x:=(-1:Int)) rfl ⟨.inl ⟨rfl,hno⟩,rfl⟩ (aI.app _ _) .refl
end Go.Proofs.YtfepdmpplahloaaGreat
namespace Go.Proofs.YtfepdmpplahloaaGreat
open Go Go.Gl
variable{ρ0 ρ:FR}{L L':List aA}{Post:Value→List aA→Prop}{T:Tree}
structure mY where
 ro:ay
 fi:ay
 clock:Int
 free:Int
 aZ:Int
 all:Bool
 stack:Int
structure mY.Ok(x:mY):Prop where
 c:x.clock<9223372036854775808
 f:x.free<9223372036854775808
 r:x.aZ<9223372036854775808
abbrev ji(c t p:Nat)(x:mY)(rf:ay):aA:=aw c [.pointer (some ⟨t,0,none⟩),.pointer (some ⟨p,0,none⟩),.slice x.ro.a x.ro.n x.ro.c,.slice x.fi.a x.fi.n x.fi.c,.int .i64 x.clock,.int .i64 x.free,.int .i64 x.aZ,.bool x.all,.int .i64 x.stack,.slice rf.a rf.n rf.c]
def gj(S:aD)(m:List Bool)(r:bW):Bool:=(Ob.head S r.2.2.1).isSome&& !Sp.has m r.2.2.1
theorem ng(c t p room:Nat)(x:mY)(rf:ay)(S:aD)(cs:List aS)(hw:aO S cs)(q:Mk.St)(r:bW):Gl.Spec ρ Tryz.prog 182 [.pointer (some ⟨c,0,none⟩),.agg (rc r).toArray] [ji c t p x rf,cP t p room q,au p S cs] RB
  fun b M=>b=gj S q.m r∧M=[ji c t p x rf,cP t p room q,au p S cs]:=by
 refine Spec.of (fun Q w h=>F.proc.common.lost.calls (some ⟨c,0,none⟩) r h) fun R=> ?_
 obtain⟨r1,r2,r3,r4,r5,r6,⟨⟩⟩:=r
 unfold F.proc.common.lost
 try simp only[aq,al]
 refine ax fun b1=> ?_
 refine aK (aR [ji c t p x rf,aw b1 [.int .i64 r1,.int .i64 r2,.int .i64 r3,.int .i64 r4,.int .i64 r5,.int .i64 r6]] ag ?_)
 refine ah (ar (k:= .ptr) (b:=c) (off:=1) (x:=some ⟨p,0,none⟩) (by rw[af]) tk rfl ?_)
 refine ar (k:= .int .i64) (b:=b1) (off:=2) (x:=r3) (by rw[af]) tk rfl ?_
 refine fb ?g1 ?g2
 case' g1=>
  refine ae (bS p S cs hw r3) ag ?_
  rintro x' M ⟨rfl,rfl⟩
  try simp only[aq,al]
  refine ax fun b7=> ?_
  rw[Dw]
 case' g2=>
  refine ax fun b7=> ?_
  rw[Dw]
  refine aN ag ?_
  refine ae (bS p S cs hw r3) ag ?_
  rintro x' M ⟨rfl,rfl⟩
  try simp only[aq,al]
 all_goals
  unfold gj
  dsimp only
  cases hh:Ob.head S r3 with
  |none=>
   dsimp only[Ob.fg]
   refine aL (b:=b7) (off:=0) rfl tk (by simp) rfl ?_
   refine aK (ak rfl ?_)
   exact aa (x:=false) rfl ⟨rfl,rfl⟩ ag aB
  |some hd=>
   obtain⟨hk,hc,hn,hf⟩:=hd
   dsimp only[Ob.fg,Hd.t]
   refine aL (b:=b7) (off:=0) rfl tk (by simp) rfl ?_
   refine aK (aH rfl (ah ?_))
   refine ai (k:= .ptr) (b:=c) (off:=0) (x:=some ⟨t,0,none⟩) (by rw[af]) tk rfl ?_
   refine ai (k:= .int .i64) (b:=b1) (off:=2) (x:=r3) (by rw[af]) tk rfl ?_
   refine ae (jP t p room q r3) ag ?_
   rintro x' M ⟨rfl,rfl⟩
   try simp only[aq,al]
   exact aa (x:= !Sp.has q.m r3) rfl ⟨rfl,rfl⟩ ag aB
def rj(S:aD)(m:List Bool)(x:mY)(r:bW):Bool:=decide (r.2.1=1)&&(!x.all&&(Sp.has m r.1&&(gj S m r&&Sf.fv x.clock r.2.2.2.2.1 x.free x.aZ)))
theorem yz(c t p room:Nat)(x:mY)(hx:x.Ok)(rf:ay)(S:aD)(cs:List aS)(hw:aO S cs)(q:Mk.St)(r:bW)(hr:r.2.2.2.2.1<9223372036854775808):Gl.Spec ρ Tryz.prog 181 [.agg #[.pointer (some ⟨c,0,none⟩)],.agg (rc r).toArray] [ji c t p x rf,cP t p room q,au p S cs] RB
  fun b M=>b=rj S q.m x r∧M=[ji c t p x rf,cP t p room q,au p S cs]:=by
 refine Spec.of (fun Q w h=>F.proc.fq.kept.calls (some ⟨c,0,none⟩,()) r h) fun R=> ?_
 obtain⟨r1,r2,r3,r4,r5,r6,⟨⟩⟩:=r
 have hr:r5<9223372036854775808:=hr
 unfold F.proc.fq.kept rj
 try simp only[aq,al]
 refine ax fun b1=>ax fun b2=> ?_
 refine aK (aR [ji c t p x rf,aw b1 [.pointer (some ⟨c,0,none⟩)],aw b2 [.int .i64 r1,.int .i64 r2,.int .i64 r3,.int .i64 r4,.int .i64 r5,.int .i64 r6]] ag ?_)
 refine ar (k:= .int .i64) (b:=b2) (off:=1) (x:=r2) (by rw[af]) tk rfl ?_
 refine aj (fun h1=> ?_) (fun h1=> ?_)
 ·have h1:r2=1:=eq_of_beq h1
  rw[decide_eq_true h1,Bool.true_and]
  refine ar (k:= .ptr) (b:=b1) (off:=0) (x:=some ⟨c,0,none⟩) (by rw[af]) tk rfl (ah ?_)
  refine ar (k:= .bool) (b:=c) (off:=7) (x:=x.all) (by rw[af,af]) tk rfl ?_
  refine aj (fun h2=> ?_) (fun h2=> ?_)
  ·rw[h2,Bool.true_and]
   refine ar (k:= .ptr) (b:=b1) (off:=0) (x:=some ⟨c,0,none⟩) (by rw[af]) tk rfl (ah ?_)
   refine ar (k:= .ptr) (b:=c) (off:=0) (x:=some ⟨t,0,none⟩) (by rw[af]) tk rfl ?_
   refine ar (k:= .int .i64) (b:=b2) (off:=0) (x:=r1) (by rw[af]) tk rfl ?_
   refine ae (jP t p room q r1) ag ?_
   rintro x' M ⟨rfl,rfl⟩
   try simp only[aq,al]
   refine aN ag (iw [ji c t p x rf,aw b1 [.pointer (some ⟨c,0,none⟩)],aw b2 [.int .i64 r1,.int .i64 r2,.int .i64 r3,.int .i64 r4,.int .i64 r5,.int .i64 r6]] ag (fun w h=>h) ?_)
   refine aj (fun h3=> ?_) (fun h3=> ?_)
   ·rw[h3,Bool.true_and]
    refine ar (k:= .ptr) (b:=b1) (off:=0) (x:=some ⟨c,0,none⟩) (by rw[af]) tk rfl ?_
    refine oz (b:=b2) (off:=0) (x:=(r1,r2,r3,r4,r5,r6,())) [] rfl tk rfl ?_
    refine ae (ng c t p room x rf S cs hw q (r1,r2,r3,r4,r5,r6,())) ag ?_
    rintro x' M ⟨rfl,rfl⟩
    try simp only[aq,al]
    refine aN ag (iw [ji c t p x rf,aw b1 [.pointer (some ⟨c,0,none⟩)],aw b2 [.int .i64 r1,.int .i64 r2,.int .i64 r3,.int .i64 r4,.int .i64 r5,.int .i64 r6]] ag (fun w h=>h) ?_)
    refine aj (fun h4=> ?_) (fun h4=> ?_)
    ·rw[h4,Bool.true_and]
     refine ar (k:= .ptr) (b:=b1) (off:=0) (x:=some ⟨c,0,none⟩) (by rw[af]) tk rfl (ah ?_)
     refine ar (k:= .int .i64) (b:=c) (off:=4) (x:=x.clock) (by rw[af,af]) tk rfl ?_
     refine ar (k:= .int .i64) (b:=b2) (off:=4) (x:=r5) (by rw[af]) tk rfl ?_
     refine ar (k:= .ptr) (b:=b1) (off:=0) (x:=some ⟨c,0,none⟩) (by rw[af]) tk rfl (ah ?_)
     refine ar (k:= .int .i64) (b:=c) (off:=5) (x:=x.free) (by rw[af,af]) tk rfl ?_
     refine ar (k:= .ptr) (b:=b1) (off:=0) (x:=some ⟨c,0,none⟩) (by rw[af]) tk rfl (ah ?_)
     refine ar (k:= .int .i64) (b:=c) (off:=6) (x:=x.aZ) (by rw[af,af]) tk rfl ?_
     refine ae (xo x.clock r5 x.free x.aZ hx.c hr hx.f hx.r) ag ?_
     rintro x' M ⟨rfl,rfl⟩
     try simp only[aq,al]
     exact aa (x:=Sf.fv x.clock r5 x.free x.aZ) rfl ⟨rfl,rfl⟩ ag aB
    ·rw[h4]
     exact aa (x:=false) rfl ⟨rfl,rfl⟩ ag aB
   ·rw[h3]
    refine iw [ji c t p x rf,aw b1 [.pointer (some ⟨c,0,none⟩)],aw b2 [.int .i64 r1,.int .i64 r2,.int .i64 r3,.int .i64 r4,.int .i64 r5,.int .i64 r6]] ag (fun w h=>h) ?_
    exact aa (x:=false) rfl ⟨rfl,rfl⟩ ag aB
  ·have h2:x.all=true:=by simpa using h2
   rw[h2]
   refine iw [ji c t p x rf,aw b1 [.pointer (some ⟨c,0,none⟩)],aw b2 [.int .i64 r1,.int .i64 r2,.int .i64 r3,.int .i64 r4,.int .i64 r5,.int .i64 r6]] ag (fun w h=>h) ?_
   refine iw [ji c t p x rf,aw b1 [.pointer (some ⟨c,0,none⟩)],aw b2 [.int .i64 r1,.int .i64 r2,.int .i64 r3,.int .i64 r4,.int .i64 r5,.int .i64 r6]] ag (fun w h=>h) ?_
   exact aa (x:=false) rfl ⟨rfl,rfl⟩ ag aB
 ·have h1:r2≠1:=by simpa using h1
  rw[decide_eq_false h1]
  refine iw [ji c t p x rf,aw b1 [.pointer (some ⟨c,0,none⟩)],aw b2 [.int .i64 r1,.int .i64 r2,.int .i64 r3,.int .i64 r4,.int .i64 r5,.int .i64 r6]] ag (fun w h=>h) ?_
  refine iw [ji c t p x rf,aw b1 [.pointer (some ⟨c,0,none⟩)],aw b2 [.int .i64 r1,.int .i64 r2,.int .i64 r3,.int .i64 r4,.int .i64 r5,.int .i64 r6]] ag (fun w h=>h) ?_
  exact aa (x:=false) rfl ⟨rfl,rfl⟩ ag aB
end Go.Proofs.YtfepdmpplahloaaGreat
namespace Go.Proofs.YtfepdmpplahloaaGreat
open Go Go.Gl
variable{ρ0 ρ:FR}{L L':List aA}{Post:Value→List aA→Prop}{T:Tree}
inductive fW (S:aD) (cs:List aS) (l:List bW) (x:mY) (R0:Int→Prop):Int→Prop
 |base {a:Int} (h:R0 a):fW S cs l x R0 a
 |fv {r:bW} {a:Int} (hr:r∈l) (h1:r.2.1=1) (h2:x.all=false) (h3:fW S cs l x R0 r.1) (h4:Sf.fv x.clock r.2.2.2.2.1 x.free x.aZ=true) (ho:Mk.obj S r.2.2.1) (ha:Mk.jM S cs [r.2.2.1] a):fW S cs l x R0 a
theorem zG{ρ':FR}(h0:Le ρ0 ρ)(hle:Le ρ ρ')(h:Tr ρ0 ρ L T Post):Tr ρ0 ρ' L T Post:=fun _ w hw=>h h0 w (hw.Dm hle)
theorem q8:∀{m m':List Bool},m.length=m'.length→(∀i:Nat,m.getD i false=true→m'.getD i false=true)→m'.count false≤m.count false
 |[],[],_,_=>Nat.le_refl _
 |b::m,b'::m',hl,h=>by
  have ih:=q8 (m:=m) (m':=m') (by simpa using hl) (fun i hi=>by simpa using h (i+1) (by simpa using hi))
  have h0:=h 0
  cases b<;>cases b'<;>simp[List.count_cons]at h0⊢<;>omega
theorem qA:∀{m m':List Bool} (j:Nat),m.length=m'.length→(∀i:Nat,m.getD i false=true→m'.getD i false=true)→m.getD j false=false→m'.getD j false=true→m'.count false<m.count false
 |[],[],j,_,_,_,h=>by simp at h
 |b::m,b'::m',0,hl,h,h1,h2=>by
  have ih:=q8 (m:=m) (m':=m') (by simpa using hl) (fun i hi=>by simpa using h (i+1) (by simpa using hi))
  simp at h1 h2
  subst h1 h2
  simp[List.count_cons]
  omega
 |b::m,b'::m',j+1,hl,h,h1,h2=>by
  have ih:=qA (m:=m) (m':=m') j (by simpa using hl) (fun i hi=>by simpa using h (i+1) (by simpa using hi)) (by simpa using h1) (by simpa using h2)
  have h0:=h 0
  cases b<;>cases b'<;>simp[List.count_cons]at h0⊢<;>omega
theorem tO(c t p room:Nat)(hroom:room≤4096)(x:mY)(hx:x.Ok)(rf:ay)(l:List bW)(hrf:eX ρ rf 6 (l.flatMap rc))(hl:l.length<2^40)(hst:∀r∈l,r.2.2.2.2.1<9223372036854775808)(S:aD)(cs:List aS)(hw:aO S cs)(q:Mk.St)(H:Mk.Rest S cs room q):
  Gl.Spec ρ Tryz.prog 144 [.agg #[.pointer (some ⟨c,0,none⟩)]] [ji c t p x rf,cP t p room q,au p S cs] (.many [])
  fun _ M=>∃q',M=[ji c t p x rf,cP t p room q',au p S cs]∧Mk.Rest S cs room q'∧∀a,Sp.has q'.m a=true↔fW S cs l x (fun a=>Sp.has q.m a=true) a:=by
 refine Spec.of (fun Q w h=>F.proc.fq.run.calls (some ⟨c,0,none⟩,()) h) fun R=> ?_
 unfold F.proc.fq.run
 try simp only[aq,al]
 refine ax fun b1=> ?_
 refine aP (fun m u M=>∃q1,M=aw b1 [.pointer (some ⟨c,0,none⟩)]::ji c t p x rf::cP t p room q1::au p S cs::R∧m=q1.m.count false∧Mk.Rest S cs room q1∧(∀a,Sp.has q.m a=true→Sp.has q1.m a=true)∧∀a,Sp.has q1.m a=true→fW S cs l x (fun a=>Sp.has q.m a=true) a) _ ⟨q,rfl,rfl,H,fun _ h=>h,fun _ h=> .base h⟩ ?_
 rintro m ⟨⟩ M ⟨q1,rfl,rfl,H1,hup,hsnd⟩ X hX
 refine aK ?_
 refine ai (k:= .ptr) (b:=b1) (off:=0) (x:=some ⟨c,0,none⟩) (by rw[af]) tk rfl ?_
 refine ah ?_
 refine ai (k:= .slice) (b:=c) (off:=9) (x:=rf) (by rw[af]) tk rfl ?_
 refine bD (b:=b1) (off:=0) (x:=(some ⟨c,0,none⟩,())) [] rfl tk rfl ?_
 refine ae (qM rf l hrf (by omega) (i:= #[.agg #[.pointer (some ⟨c,0,none⟩)]]) (c:= #[]) (A:=[ji c t p x rf,cP t p room q1,au p S cs]) (g:=rj S q1.m x) Tryz.func181 (by kernel_rfl) (fun r hr=>by
  have:=yz (ρ:=ρ) c t p room x hx rf S cs hw q1 r (hst r hr)
  simpa using this)) ag ?_
 rintro r8 M ⟨hidx,rfl⟩
 try simp only[aq,al]
 have hlen:=H1.closed.len
 have hwl:=hw.wf.len
 rcases hidx with ⟨rfl,hno⟩|⟨k,rfl,hk,hg⟩
 ·refine aH rfl ?_
  refine aa (x:=()) rfl ⟨q1,rfl,H1,fun a=>⟨hsnd a,fun ha=> ?_⟩⟩ ag aB
  induction ha with
  |base h=>exact hup _ h
  | @fv r a hr g1 g2 _ g4 go ga ih=>
   have hno:=hno r hr
   have hm:Sp.has q1.m r.2.2.1=true:=by
    cases hm:Sp.has q1.m r.2.2.1 with
    |true=>rfl
    |false=>
     have:rj S q1.m x r=true:=by
      unfold rj gj
      unfold Mk.obj at go
      rw[decide_eq_true g1,g2,ih,go,hm,g4];rfl
     rw[this]at hno;cases hno
   exact H1.closed.Fh (fun b hb _=>by rw[List.mem_singleton]at hb;rw[hb];exact hm) ga
 ·have hki:l[k]? =some (l.getD k d6):=by rw[List.getD_eq_getElem?_getD,List.getElem?_eq_getElem hk];rfl
  have hin:=List.mem_of_getElem? hki
  generalize hrr:l.getD k d6=r at*
  refine ak (decide_eq_false (show¬((k:Nat):Int)<0 by omega)) ?_
  refine aK (aR [aw b1 [.pointer (some ⟨c,0,none⟩)],ji c t p x rf] ag ?_)
  refine ar (k:= .ptr) (b:=b1) (off:=0) (x:=some ⟨c,0,none⟩) (by rw[af]) tk rfl (ah ?_)
  refine ar (k:= .ptr) (b:=c) (off:=0) (x:=some ⟨t,0,none⟩) (by rw[af]) tk rfl ?_
  refine ar (k:= .ptr) (b:=b1) (off:=0) (x:=some ⟨c,0,none⟩) (by rw[af]) tk rfl (ah ?_)
  refine ar (k:= .slice) (b:=c) (off:=9) (x:=rf) (by rw[af]) tk rfl ?_
  have hn:rf.n=l.length:=by
   have:=hrf.1
   rw[gM (g:=rc) (m:=6) dQ]at this
   omega
  refine bJ hrf (by omega) (by omega) fun a0 ha=> ?_
  rw[Int.toNat_natCast]
  refine tL (k:= .int .i64) (j:=k*6+2) (x:=r.2.2.1) ha hrf (by rintro b o rfl;rw[af,af,Nat.add_assoc]) (by rw[eO (g:=rc) (m:=6) dQ hki (by omega)];rfl) ?_
  refine ax fun b18=>aN ag ?_
  refine Rd.bk (n:=1) (m:=1) (vs:=([r.2.2.1]:List Int).map i64) rfl tk fun ρ1 hle1 ro1=> ?_
  refine ae (ry t p room hroom S cs hw q1 H1 ⟨some ⟨b18,0,none⟩,1,1⟩ [r.2.2.1] ro1 (by simp)) ag ?_
  rintro x' M ⟨q2,rfl,H2,hq2⟩
  try simp only[aq,al]
  unfold rj gj at hg
  rw[Bool.and_eq_true,Bool.and_eq_true,Bool.and_eq_true,Bool.and_eq_true,Bool.and_eq_true]at hg
  obtain⟨g1,g2,g3,⟨g4,g5⟩,g6⟩:=hg
  have hold:∀a,Sp.has q1.m a=true→Sp.has q2.m a=true:=fun a h=>(hq2 a).mpr (.inl h)
  have hcnt:q2.m.count false<q1.m.count false:=by
   obtain⟨k0,k1⟩:=Mk.lE hw g4
   have hm2:Sp.has q2.m r.2.2.1=true:=(hq2 _).mpr (.inr (.root (List.mem_singleton.mpr rfl) g4))
   have hl2:=H2.closed.len
   refine qA r.2.2.1.toNat (by omega) (fun i hi=> ?_) ?_ ?_
   ·have:=hold (i:Int) (by unfold Sp.has;rw[decide_eq_true (by omega),Int.toNat_natCast,hi];rfl)
    unfold Sp.has at this
    rw[decide_eq_true (by omega),Bool.true_and,Int.toNat_natCast]at this
    exact this
   ·unfold Sp.has at g5
    rw[decide_eq_true k0,Bool.true_and]at g5
    simpa using g5
   ·unfold Sp.has at hm2
    rw[decide_eq_true k0,Bool.true_and]at hm2
    exact hm2
  refine Tr.take (A:=ji c t p x rf) tk (Tr.take (A:=aw b1 [.pointer (some ⟨c,0,none⟩)]) tk ?_)
  refine zG (Le.refl _) hle1 (hX _ _ _ hcnt ⟨q2,rfl,rfl,H2,fun a h=>hold a (hup a h),fun a h=> ?_⟩)
  rcases(hq2 a).mp h with h|h
  ·exact hsnd a h
  ·exact .fv hin (of_decide_eq_true g1) (by simpa using g2) (hsnd _ g3) g6 g4 h
end Go.Proofs.YtfepdmpplahloaaGreat
namespace Go.Proofs.YtfepdmpplahloaaGreat
open Go Go.Gl
variable{ρ0 ρ:FR}{L L':List aA}{Post:Value→List aA→Prop}{T:Tree}
def jz(o:fT):Option bW:=if o.h.k=4 then some (o.a,o.h.c,o.ws.getD 0 0,o.ws.getD 1 0,o.ws.getD 3 0,o.ws.getD 4 0,())else none
def refsOf(S:aD):List bW:=(Ob.mS S).filterMap jz
theorem Dq:lU Tryz.prog #[215,215] 6 48=true:=by kernel_rfl
theorem CD{S:aD}{cs:List aS}(hw:aO S cs):∀o∈Ob.mS S,o.h.k=4→o.ws.length=5:=fun o ho hk=>by
 obtain⟨a,_,rfl⟩:=List.mem_map.mp ho
 unfold Ob.gU at hk⊢
 split
 ·rename_i h hh
  rw[hh]at hk
  dsimp only at hk
  obtain⟨_,_,_,_,_,g,_⟩:=Ob.bt hw hh
  have:h.n=5:=by
   unfold Sp.cC at g
   rw[if_neg (by omega),if_neg (by omega)]at g
   simp at g
   omega
  simp[this]
 ·rename_i hh
  rw[hh]at hk
  simp at hk
theorem xw(p:Nat)(S:aD)(cs:List aS)(hw:aO S cs):Gl.Spec ρ Tryz.prog 142 [.pointer (some ⟨p,0,none⟩)] [au p S cs] RS
  fun r M=>∃l:List bW,M=[aE r 6 (l.flatMap rc),au p S cs]∧l.Perm (refsOf S)∧ew 0 l.length l:=by
 refine Spec.of (fun Q w h=>F.proc.refs.calls (some ⟨p,0,none⟩) h) fun R=> ?_
 unfold F.proc.refs
 try simp only[aq,al]
 refine ae (pC p S cs hw) ag ?_
 rintro r1 M ⟨rfl,hn1⟩
 try simp only[aq,al]
 have hol:(Ob.mS S).length<2^14:=by
  have:=Sp.cV hw.wf
  unfold Ob.mS;rw[List.length_map];omega
 have hrl:=CD hw
 refine Tr.Bw (s:=r1) (os:=Ob.mS S) tk fun ρ1 hle1 hobs=> ?_
 unfold refsOf
 generalize Ob.mS S=os at*
 obtain⟨_,lo,hlo,hro,hqs⟩:=hobs
 have hll:lo.length=os.length:=by rw[←hlo];simp
 refine Tr.cq 6 ?_
 refine aP (fun m u M=>(fun(t:ay) (i:Int)=>M=aE t 6 (((os.take i.toNat).filterMap jz).flatMap rc)::au p S cs::R∧0≤i∧i≤os.length∧m=os.length-i.toNat) u.1 u.2.1) os.length ?_ ?_
 ·exact⟨rfl,by simp,by dsimp only;omega,by simp⟩
 ·rintro m ⟨(t:ay),(i:Int),⟨⟩⟩ M ⟨rfl,i0,i1,rfl⟩ X hX
  dsimp only at i0 i1 hX⊢
  refine pT (s:=t) (l:=(os.take i.toNat).filterMap jz) tk fun htn=> ?_
  have hfl:((os.take i.toNat).filterMap jz).length≤os.length:=Nat.le_trans (List.length_filterMap_le _ _) (by simp;omega)
  refine aj (fun h=> ?_) (fun h=> ?_)
  ·replace h:i<(r1.n:Int):=of_decide_eq_true h
   have hi:i.toNat<os.length:=by omega
   have hx:lo[i.toNat]? =some lo[i.toNat]:=List.getElem?_eq_getElem (by omega)
   have hxo:os[i.toNat]? =some lo[i.toNat].1:=by
    have:=congrArg (fun l:List fT=>l[i.toNat]?) hlo
    rw[List.getElem?_map,hx]at this
    exact this.symm
   have ht:(os.take (i+1).toNat).filterMap jz=(os.take i.toNat).filterMap jz++[lo[i.toNat].1].filterMap jz:=by
    rw[show(i+1).toNat=i.toNat+1 by omega,List.take_add_one,hxo,List.filterMap_append];rfl
   obtain⟨hq,hqn⟩:=hqs _ (List.mem_of_getElem? hx)
   have h5:=hrl _ (List.mem_of_getElem? hxo)
   generalize lo[i.toNat]=y at*
   obtain⟨⟨a,⟨k,c,n,f⟩,ws⟩,q⟩:=y
   dsimp only at hq hqn h5 ht
   refine bJ hro i0 h fun a0 ha=> ?_
   refine sB (x:=(a,k,c,n,f,q,())) ha hro (j:=i.toNat*6) (by rintro b o rfl;simp[af]) (fun e v he=> ?_) ?_
   ·have hlt:e<6:=(List.getElem?_eq_some_iff.1 he).1
    rw[Nat.add_zero,eO (g:=nF) (m:=6) (fun _=>rfl) hx hlt];exact he
   dsimp only
   refine ax fun b6=> ?_
   rw[FE]
   refine aL (b:=b6) (off:=0) rfl tk (by simp) rfl ?_
   refine ai (k:= .int .i64) (b:=b6) (off:=1) (x:=k) (by rw[af,af]) tk rfl ?_
   rw[wrap64 (n:=i+1) (by omega) (by omega)]
   refine aj (fun h2=> ?_) (fun h2=> ?_)
   ·have h2:k=4:=eq_of_beq h2
    have h5:=h5 h2
    refine ai (k:= .slice) (b:=b6) (off:=5) (x:=q) (by rw[af]) tk rfl ?_
    refine aK (aR [aw b6 [.int .i64 a,.int .i64 k,.int .i64 c,.int .i64 n,.bool f,.slice q.a q.n q.c]] ag ?_)
    refine ar (k:= .int .i64) (b:=b6) (off:=0) (x:=a) (by rw[af]) tk rfl ?_
    refine ar (k:= .int .i64) (b:=b6) (off:=2) (x:=c) (by rw[af,af]) tk rfl ?_
    refine kV hq (by omega) (by omega) ?_
    refine kV hq (by omega) (by omega) ?_
    refine kV hq (by omega) (by omega) ?_
    refine kV hq (by omega) (by omega) ?_
    refine ax fun b20=> ?_
    refine df (s:=t) (x:=⟨some ⟨b20,0,none⟩,1,1⟩) (ys:=rc (a,c,ws.getD (0:Int).toNat 0,ws.getD (1:Int).toNat 0,ws.getD (3:Int).toNat 0,ws.getD (4:Int).toNat 0,())) Dq tk (Rd.cl tk rfl rfl) rfl (by rw[htn];dsimp only;omega) (by rw[htn];dsimp only;omega) fun r hr=> ?_
    refine Tr.drop (A:=aw b20 (rc (a,c,ws.getD (0:Int).toNat 0,ws.getD (1:Int).toNat 0,ws.getD (3:Int).toNat 0,ws.getD (4:Int).toNat 0,()))) tk ?_
    refine Tr.drop (A:=aw b6 [.int .i64 a,.int .i64 k,.int .i64 c,.int .i64 n,.bool f,.slice q.a q.n q.c]) tk ?_
    refine hX (os.length-(i+1).toNat) _ _ (by omega) ⟨?_,by dsimp only;omega,by dsimp only;omega,rfl⟩
    dsimp only
    rw[ht,show[(⟨a,⟨k,c,n,f⟩,ws⟩:fT)].filterMap jz=[(a,c,ws.getD 0 0,ws.getD 1 0,ws.getD 3 0,ws.getD 4 0,())] by simp[jz,h2],List.flatMap_append]
    simp
   ·have h2:k≠4:=by simpa using h2
    refine Tr.drop (A:=aw b6 [.int .i64 a,.int .i64 k,.int .i64 c,.int .i64 n,.bool f,.slice q.a q.n q.c]) tk ?_
    refine hX (os.length-(i+1).toNat) _ _ (by omega) ⟨?_,by dsimp only;omega,by dsimp only;omega,rfl⟩
    dsimp only
    rw[ht,show[(⟨a,⟨k,c,n,f⟩,ws⟩:fT)].filterMap jz=[] by simp[jz,h2],List.append_nil]
  ·replace h:¬i<(r1.n:Int):=of_decide_eq_false h
   rw[List.take_of_length_le (by omega)]at hfl⊢
   refine ae (tb t (os.filterMap jz) (by omega)) ag ?_
   rintro x' M ⟨l',rfl,hp,hs⟩
   try simp only[aq,al]
   rw[←hp.length_eq]at hs
   exact aa (x:=t) rfl ⟨l',rfl,hp,hs⟩ ag aB
end Go.Proofs.YtfepdmpplahloaaGreat
namespace Go.Proofs.YtfepdmpplahloaaGreat
open Go Go.Gl
variable{ρ0 ρ:FR}{L L':List aA}{Post:Value→List aA→Prop}{T:Tree}
theorem xT{A:List aA}(s:ay)(xs:List Int)(hr:Rd ρ A s 1 (xs.map i64))(hl:xs.length<2^62)(v:Int):Gl.Spec ρ Tryz.prog 150 [.slice s.a s.n s.c,i64 v] A R1 fun r M=>(0≤r↔v∈xs)∧M=A:=by
 refine Spec.of (fun Q w h=>F.av.Index.calls s v h) fun R=> ?_
 unfold F.av.Index
 have hn:s.n=xs.length:=by have:=hr.1;simpa using this.symm
 refine aP (fun n u M=>(fun j:Int=>M=A++R∧0≤j∧j≤xs.length∧n=xs.length-j.toNat∧v∉xs.take j.toNat) u.1) xs.length ?_ ?_
 ·exact⟨rfl,by simp,by dsimp only;omega,by simp,by simp⟩
 ·rintro n ⟨(j:Int),⟨⟩⟩ M ⟨rfl,j0,j1,rfl,hno⟩ X hX
  dsimp only at j0 j1 hno hX⊢
  refine aj (fun h=> ?_) (fun h=> ?_)
  ·replace h:j<(s.n:Int):=of_decide_eq_true h
   have hj:j.toNat<xs.length:=by omega
   refine iP hr (aI.app A R) j0 (by omega) ?_
   refine aj (fun h2=> ?_) (fun h2=> ?_)
   ·have h2:v=xs.getD j.toNat 0:=eq_of_beq h2
    have hin:v∈xs:=by rw[h2,List.getD_eq_getElem?_getD,List.getElem?_eq_getElem hj];exact List.getElem_mem hj
    exact aa (x:=j) rfl ⟨⟨fun _=>hin,fun _=>j0⟩,rfl⟩ (aI.app _ _) .refl
   ·have h2:v≠xs.getD j.toNat 0:=by simpa using h2
    rw[wrap64 (n:=j+1) (by omega) (by omega)]
    refine hX (xs.length-(j+1).toNat) _ _ (by omega) ⟨rfl,by dsimp only;omega,by dsimp only;omega,rfl,?_⟩
    dsimp only
    rw[show(j+1).toNat=j.toNat+1 by omega,aJ 0 hj,List.mem_append,List.mem_singleton]
    rintro(h|h)
    ·exact hno h
    ·exact h2 h
  ·replace h:¬j<(s.n:Int):=of_decide_eq_false h
   rw[List.take_of_length_le (by omega)]at hno
   exact aa (x:=(-1:Int)) rfl ⟨⟨fun g=>absurd g (by decide),fun g=>absurd g hno⟩,rfl⟩ (aI.app _ _) .refl
theorem jG{A:List aA}(s:ay)(xs:List Int)(hr:Rd ρ A s 1 (xs.map i64))(hl:xs.length<2^62)(v:Int):Gl.Spec ρ Tryz.prog 122 [.slice s.a s.n s.c,i64 v] A RB fun r M=>r=decide (v∈xs)∧M=A:=by
 refine Spec.of (fun Q w h=>F.av.mW.calls s v h) fun R=> ?_
 unfold F.av.mW
 refine ae (xT s xs hr hl v) (aI.app A R) ?_
 rintro r M ⟨hi,rfl⟩
 refine aa (x:=decide (v∈xs)) ?_ ⟨rfl,rfl⟩ (aI.app _ _) .refl
 show Value.bool _=Value.bool _
 congr 1
 rw[Bool.eq_iff_iff,decide_eq_true_iff,decide_eq_true_iff]
 exact hi
def bH(S:aD)(m:List Bool)(xs:List Int)(l:List bW):List Int:=(l.filter fun r=>decide (r.2.1∈xs)&&gj S m r).map (·.1)
theorem l6(c t p room:Nat)(x:mY)(rf:ay)(l:List bW)(hrf:eX ρ rf 6 (l.flatMap rc))(hl:l.length<2^38)(S:aD)(cs:List aS)(hw:aO S cs)(q:Mk.St)(z:ay)(xs:List Int)(hz:eX ρ z 1 (xs.map i64))(hxl:xs.length<2^40):
  Gl.Spec ρ Tryz.prog 145 [.pointer (some ⟨c,0,none⟩),.slice z.a z.n z.c] [ji c t p x rf,cP t p room q,au p S cs] RS
  fun r M=>M=[aE r 1 ((bH S q.m xs l).map i64),ji c t p x rf,cP t p room q,au p S cs]:=by
 refine Spec.of (fun Q w h=>F.proc.common.hP.calls (some ⟨c,0,none⟩) z h) fun R=> ?_
 unfold F.proc.common.hP
 try simp only[aq,al]
 have hn:rf.n=l.length:=by
  have:=hrf.1
  rw[gM (g:=rc) (m:=6) dQ]at this
  omega
 refine ah ?_
 refine ai (k:= .slice) (b:=c) (off:=9) (x:=rf) (by rw[af]) tk rfl ?_
 refine Tr.cq 1 ?_
 refine aP (fun m u M=>(fun(o:ay) (i:Int)=>M=aE o 1 ((bH S q.m xs (l.take i.toNat)).map i64)::ji c t p x rf::cP t p room q::au p S cs::R∧0≤i∧i≤l.length∧m=l.length-i.toNat) u.1 u.2.1) l.length ?_ ?_
 ·exact⟨rfl,by simp,by dsimp only;omega,by simp⟩
 ·rintro m ⟨(o:ay),(i:Int),⟨⟩⟩ M ⟨rfl,i0,i1,rfl⟩ X hX
  dsimp only at i0 i1 hX⊢
  refine aj (fun h=> ?_) (fun h=> ?_)
  ·replace h:i<(rf.n:Int):=of_decide_eq_true h
   have hi:i.toNat<l.length:=by omega
   have hii:l[i.toNat]? =some (l.getD i.toNat d6):=by rw[List.getD_eq_getElem?_getD,List.getElem?_eq_getElem hi];rfl
   have ht:l.take (i+1).toNat=l.take i.toNat++[l.getD i.toNat d6]:=by rw[show(i+1).toNat=i.toNat+1 by omega,aJ d6 hi]
   refine bJ hrf i0 h fun a0 ha=> ?_
   refine sB (x:=l.getD i.toNat d6) ha hrf (j:=i.toNat*6) (by rintro b o rfl;simp[af]) (fun e v he=> ?_) ?_
   ·have hlt:e<6:=(List.getElem?_eq_some_iff.1 he).1
    rw[Nat.add_zero,eO (g:=rc) (m:=6) dQ hii hlt];exact he
   generalize l.getD i.toNat d6=r at*
   have hcl:((bH S q.m xs (l.take i.toNat))).length≤l.length:=by
    unfold bH
    rw[List.length_map]
    exact Nat.le_trans (List.length_filter_le _ _) (by simp;omega)
   have hstep:bH S q.m xs (l.take (i+1).toNat)=bH S q.m xs (l.take i.toNat)++(if(decide (r.2.1∈xs)&&gj S q.m r)=true then[r.1]else[]):=by
    unfold bH
    rw[ht,List.filter_append,List.map_append]
    by_cases hc:(decide (r.2.1∈xs)&&gj S q.m r)=true
    ·rw[if_pos hc,List.filter_cons_of_pos (p:=fun r:bW=>decide (r.2.1∈xs)&&gj S q.m r) hc];rfl
    ·rw[if_neg hc,List.filter_cons_of_neg (p:=fun r:bW=>decide (r.2.1∈xs)&&gj S q.m r) hc];rfl
   refine ax fun b7=> ?_
   obtain⟨r1,r2,r3,r4,r5,r6,⟨⟩⟩:=r
   dsimp only at hstep⊢
   rw[show zc Tryz.prog 250=[.int .i64 0,.int .i64 0,.int .i64 0,.int .i64 0,.int .i64 0,.int .i64 0] by kernel_rfl]
   refine aL (b:=b7) (off:=0) rfl tk (by simp) rfl ?_
   refine ai (k:= .int .i64) (b:=b7) (off:=1) (x:=r2) (by rw[af]) tk rfl ?_
   refine ae (jG (A:=[]) z xs (Rd.ro hz) (by omega) r2) .nil ?_
   rintro x' M ⟨rfl,rfl⟩
   try simp only[aq,al]
   rw[wrap64 (n:=i+1) (by omega) (by omega)]
   have skip:¬(decide (r2∈xs)&&gj S q.m (r1,r2,r3,r4,r5,r6,()))=true→Tr ρ ρ (aE o 1 ((bH S q.m xs (l.take i.toNat)).map i64)::ji c t p x rf::cP t p room q::au p S cs::R) (X (o,i+1,())) (SP RS (fun r M=>M=[aE r 1 ((bH S q.m xs l).map i64),ji c t p x rf,cP t p room q,au p S cs]) R):=fun hc=>by
    refine hX (l.length-(i+1).toNat) _ _ (by omega) ⟨?_,by dsimp only;omega,by dsimp only;omega,rfl⟩
    dsimp only
    rw[hstep,if_neg hc,List.append_nil]
   refine aj (fun h2=> ?_) (fun h2=> ?_)
   ·refine bD (b:=b7) (off:=0) (x:=(r1,r2,r3,r4,r5,r6,())) [] rfl tk rfl ?_
    refine ae (ng c t p room x rf S cs hw q (r1,r2,r3,r4,r5,r6,())) ag ?_
    rintro x' M ⟨rfl,rfl⟩
    try simp only[aq,al]
    refine aj (fun h3=> ?_) (fun h3=> ?_)
    ·refine ai (k:= .int .i64) (b:=b7) (off:=0) (x:=r1) (by rw[af]) tk rfl ?_
     refine gw (s:=o) (xs:=bH S q.m xs (l.take i.toNat)) ca tk (by omega) fun r hr=> ?_
     refine Tr.drop (A:=aw b7 [.int .i64 r1,.int .i64 r2,.int .i64 r3,.int .i64 r4,.int .i64 r5,.int .i64 r6]) tk ?_
     refine hX (l.length-(i+1).toNat) _ _ (by omega) ⟨?_,by dsimp only;omega,by dsimp only;omega,rfl⟩
     dsimp only
     rw[hstep,if_pos (by rw[h2,h3];rfl)]
    ·refine Tr.drop (A:=aw b7 [.int .i64 r1,.int .i64 r2,.int .i64 r3,.int .i64 r4,.int .i64 r5,.int .i64 r6]) tk ?_
     refine Tr.take (A:=aE o 1 ((bH S q.m xs (l.take i.toNat)).map i64)) tk (skip (by rw[h3];simp))
   ·refine Tr.drop (A:=aw b7 [.int .i64 r1,.int .i64 r2,.int .i64 r3,.int .i64 r4,.int .i64 r5,.int .i64 r6]) tk (skip (by rw[h2];simp))
  ·replace h:¬i<(rf.n:Int):=of_decide_eq_false h
   rw[List.take_of_length_le (by omega)]
   exact aa (x:=o) rfl rfl ag aB
end Go.Proofs.YtfepdmpplahloaaGreat
namespace Go.Proofs.YtfepdmpplahloaaGreat
open Go Go.Gl
variable{ρ0 ρ:FR}{L L':List aA}{Post:Value→List aA→Prop}{T:Tree}
def bV(S:aD)(m:List Bool)(o:List Int)(a:Int):List Int:=if gj S m (0,0,a,0,0,0,())=true∧a∉o then o++[a]else o
def bA(S:aD)(m:List Bool)(fs:List Int):List Int:=fs.foldl (bV S m) []
theorem iz(S:aD)(m:List Bool):∀(fs o:List Int),(fs.foldl (bV S m) o).length≤o.length+fs.length
 |[],o=>by simp
 |a::fs,o=>by
  rw[List.foldl_cons]
  have:=iz S m fs (bV S m o a)
  have h1:(bV S m o a).length≤o.length+1:=by unfold bV;split<;>simp
  rw[List.length_cons];omega
theorem te(c t p room:Nat)(hroom:room≤4096)(x:mY)(rf:ay)(fs:List Int)(hfs:eX ρ x.fi 1 (fs.map i64))(hl:fs.length<2^30)(S:aD)(cs:List aS)(hw:aO S cs)(q:Mk.St)(H:Mk.Rest S cs room q):
  Gl.Spec ρ Tryz.prog 146 [.agg #[.pointer (some ⟨c,0,none⟩)]] [ji c t p x rf,cP t p room q,au p S cs] RS
  fun r M=>∃q',M=[aE r 1 ((bA S q.m fs).map i64),ji c t p x rf,cP t p room q',au p S cs]∧Mk.Rest S cs room q'∧∀a,Sp.has q'.m a=true↔(Sp.has q.m a=true∨Mk.jM S cs (bA S q.m fs) a):=by
 refine Spec.of (fun Q w h=>F.proc.nx.run.calls (some ⟨c,0,none⟩,()) h) fun R=> ?_
 unfold F.proc.nx.run
 try simp only[aq,al]
 have hn:=hfs.len
 refine ax fun b1=> ?_
 refine ai (k:= .ptr) (b:=b1) (off:=0) (x:=some ⟨c,0,none⟩) (by rw[af]) tk rfl ?_
 refine ah ?_
 refine ai (k:= .slice) (b:=c) (off:=3) (x:=x.fi) (by rw[af,af]) tk rfl ?_
 refine Tr.cq 1 ?_
 refine aP (fun m u M=>(fun(o:ay) (i:Int)=>M=aE o 1 ((bA S q.m (fs.take i.toNat)).map i64)::aw b1 [.pointer (some ⟨c,0,none⟩)]::ji c t p x rf::cP t p room q::au p S cs::R∧0≤i∧i≤fs.length∧m=fs.length-i.toNat) u.1 u.2.1) fs.length ?_ ?_
 ·exact⟨rfl,by simp,by dsimp only;omega,by simp⟩
 ·rintro m ⟨(o:ay),(i:Int),⟨⟩⟩ M ⟨rfl,i0,i1,rfl⟩ X hX
  dsimp only at i0 i1 hX⊢
  have hpl:=iz S q.m (fs.take i.toNat) []
  rw[List.length_take]at hpl
  have hpl:(bA S q.m (fs.take i.toNat)).length≤fs.length:=by unfold bA;simp at hpl;omega
  refine Tr.jZ (s:=o) (xs:=bA S q.m (fs.take i.toNat)) tk fun hon=> ?_
  refine aj (fun h=> ?_) (fun h=> ?_)
  ·replace h:i<(x.fi.n:Int):=of_decide_eq_true h
   have hi:i.toNat<fs.length:=by omega
   have hstep:bA S q.m (fs.take (i+1).toNat)=bV S q.m (bA S q.m (fs.take i.toNat)) (fs.getD i.toNat 0):=by
    unfold bA
    rw[show(i+1).toNat=i.toNat+1 by omega,aJ 0 hi,List.foldl_append];rfl
   refine iE hfs i0 (by omega) ?_
   generalize fs.getD i.toNat 0=a at*
   generalize bA S q.m (fs.take i.toNat)=os at*
   refine ai (k:= .ptr) (b:=b1) (off:=0) (x:=some ⟨c,0,none⟩) (by rw[af]) tk rfl ?_
   refine ae (ng c t p room x rf S cs hw q (0,0,a,0,0,0,())) ag ?_
   rintro x' M ⟨rfl,rfl⟩
   try simp only[aq,al]
   rw[wrap64 (n:=i+1) (by omega) (by omega)]
   have go:∀(o':ay) (os':List Int),os'=bV S q.m os a→Tr ρ ρ (aE o' 1 (os'.map i64)::aw b1 [.pointer (some ⟨c,0,none⟩)]::ji c t p x rf::cP t p room q::au p S cs::R) (X (o',i+1,())) (SP RS (fun r M=>∃q',M=[aE r 1 ((bA S q.m fs).map i64),ji c t p x rf,cP t p room q',au p S cs]∧Mk.Rest S cs room q'∧∀a,Sp.has q'.m a=true↔(Sp.has q.m a=true∨Mk.jM S cs (bA S q.m fs) a)) R):=fun o' os' e=>by
    refine hX (fs.length-(i+1).toNat) _ _ (by omega) ⟨?_,by dsimp only;omega,by dsimp only;omega,rfl⟩
    dsimp only
    rw[hstep,e]
   refine aj (fun h2=> ?_) (fun h2=> ?_)
   ·refine ae (jG (A:=[aE o 1 (os.map i64)]) o os (Rd.sl .here (by simp[hon])) (by omega) a) ag ?_
    rintro x' M ⟨rfl,rfl⟩
    try simp only[aq,al]
    refine aj (fun h3=> ?_) (fun h3=> ?_)
    ·have h3:a∉os:=by simpa using h3
     refine gw (s:=o) (xs:=os) ca tk (by omega) fun r hr=> ?_
     refine Tr.take (A:=aw b1 [.pointer (some ⟨c,0,none⟩)]) tk (Tr.take (A:=aE r 1 ((os++[a]).map i64)) tk ?_)
     exact go r _ (by unfold bV;rw[if_pos ⟨h2,h3⟩])
    ·have h3:a∈os:=by simpa using h3
     refine Tr.take (A:=aw b1 [.pointer (some ⟨c,0,none⟩)]) tk (Tr.take (A:=aE o 1 (os.map i64)) tk ?_)
     exact go o _ (by unfold bV;rw[if_neg (fun g=>g.2 h3)])
   ·refine Tr.take (A:=aw b1 [.pointer (some ⟨c,0,none⟩)]) tk (Tr.take (A:=aE o 1 (os.map i64)) tk ?_)
    exact go o _ (by unfold bV;rw[if_neg (fun g=>by rw[h2]at g;cases g.1)])
  ·replace h:¬i<(x.fi.n:Int):=of_decide_eq_false h
   rw[List.take_of_length_le (by omega)]at hpl hon⊢
   generalize bA S q.m fs=os at*
   refine ai (k:= .ptr) (b:=b1) (off:=0) (x:=some ⟨c,0,none⟩) (by rw[af]) tk rfl ?_
   refine ah ?_
   refine ai (k:= .ptr) (b:=c) (off:=0) (x:=some ⟨t,0,none⟩) (by rw[af]) tk rfl ?_
   refine ae (vU (A:=[aE o 1 (os.map i64)]) t p room hroom S cs hw q H o os (Rd.sl .here (by simp[hon])) (by omega)) ag ?_
   rintro x' M ⟨q2,rfl,H2,hq2⟩
   try simp only[aq,al]
   exact aa (x:=o) rfl ⟨q2,rfl,H2,hq2⟩ ag aB
end Go.Proofs.YtfepdmpplahloaaGreat
namespace Go.Proofs.YtfepdmpplahloaaGreat
open Go Go.Gl
variable{ρ0 ρ:FR}{L L':List aA}{Post:Value→List aA→Prop}{T:Tree}
def DB(S:aD)(h:Hd)(a:Int):bW:=(a,h.c,(Ob.get S a 0).1,(Ob.get S a 1).1,(Ob.get S a 3).1,(Ob.get S a 4).1,())
theorem EU{h:Hd}(hm:Sp.cC h=true)(hk:h.k=4):h.n=5:=by
 unfold Sp.cC at hm
 rw[if_neg (by omega),if_neg (by omega)]at hm
 simp at hm
 omega
theorem rG{S:aD}{cs:List aS}(hw:aO S cs){a:Int}{h:Hd}(hh:Ob.head S a=some h)(hk:h.k=4):jz (Ob.gU S a)=some (DB S h a):=by
 obtain⟨_,_,_,_,_,g,_⟩:=Ob.bt hw hh
 have hn:=EU g hk
 unfold Ob.gU
 rw[hh]
 unfold jz
 dsimp only
 rw[if_pos hk,hn]
 rfl
theorem fA{S:aD}{cs:List aS}(hw:aO S cs){r:bW}:r∈refsOf S↔∃h,Ob.head S r.1=some h∧h.k=4∧r=DB S h r.1:=by
 unfold refsOf Ob.mS
 rw[List.mem_filterMap]
 constructor
 ·rintro⟨o,ho,hr⟩
  obtain⟨a,_,rfl⟩:=List.mem_map.mp ho
  cases hh:Ob.head S a with
  |none=>
   unfold Ob.gU at hr
   rw[hh]at hr
   simp[jz]at hr
  |some h=>
   by_cases hk:h.k=4
   ·rw[rG hw hh hk]at hr
    injection hr with hr
    subst hr
    exact⟨h,hh,hk,rfl⟩
   ·unfold Ob.gU at hr
    rw[hh]at hr
    simp[jz,hk]at hr
 ·rintro⟨h,hh,hk,hr⟩
  obtain⟨n,w,e,hf,_⟩:=Ob.bt hw hh
  refine⟨Ob.gU S r.1,List.mem_map.mpr ⟨r.1,(cg hw.wf).mpr ⟨n,w,e,hf⟩,rfl⟩,?_⟩
  rw[rG hw hh hk,←hr]
theorem ub{S:aD}{cs:List aS}(hw:aO S cs):(refsOf S).length<2^14:=by
 have:=Sp.cV hw.wf
 refine Nat.lt_of_le_of_lt (List.length_filterMap_le _ _) ?_
 unfold Ob.mS;rw[List.length_map];omega
theorem DT{l:List bW}(h:ew 0 l.length l):l.Pairwise fun a b=>cD a≤cD b:=by
 rw[List.pairwise_iff_getElem]
 intro i j hi hj hij
 have:=h i j (by omega) hij hj
 rw[List.getD_eq_getElem?_getD,List.getD_eq_getElem?_getD,List.getElem?_eq_getElem hi,List.getElem?_eq_getElem hj]at this
 exact this
theorem fW.mono{S:aD}{cs:List aS}{l l':List bW}{x x':mY}{R R':Int→Prop}(hl:∀r∈l,r∈l')(hx:x.all=x'.all∧x.clock=x'.clock∧x.free=x'.free∧x.aZ=x'.aZ)(hR:∀a,R a→R' a){a:Int}(h:fW S cs l x R a):fW S cs l' x' R' a:=by
 induction h with
 |base h=>exact .base (hR _ h)
 |fv hr h1 h2 _ h4 ho ha ih=>
  obtain⟨e1,e2,e3,e4⟩:=hx
  exact .fv (hl _ hr) h1 (by rw[←e1];exact h2) ih (by rw[←e2,←e3,←e4];exact h4) ho ha
structure lD(S:aD)(cs:List aS)(x:mY)(ro fs:List Int)(l:List bW)(m2 m3:List Bool):Prop where
 perm:l.Perm (refsOf S)
 Ev:l.Pairwise fun a b=>cD a≤cD b
 c2:Mk.ik S cs m2
 c3:Mk.ik S cs m3
 tw:∀a,Sp.has m2 a=true↔fW S cs (refsOf S) x (Mk.jM S cs ro) a
 rJ:∀a,Sp.has m3 a=true↔(Sp.has m2 a=true∨Mk.jM S cs (bA S m2 fs) a)
def bG(S:aD)(m:List Bool)(cl:List Int):List Int:=cl.filter fun a=>Sp.has m a&&decide ((Ob.get S a 1).1>0)
def aT(S:aD)(m2 m3:List Bool)(l:List bW):List Int:=bH S m2 [1,2] l++bH S m3 [3] l
theorem lD.ux{S:aD}{cs:List aS}{x:mY}{ro fs:List Int}{l:List bW}{m2 m3:List Bool}(hw:aO S cs)(h:lD S cs x ro fs l m2 m3):l.length<2^14:=by
 rw[h.perm.length_eq];exact ub hw
theorem kO{S:aD}{m:List Bool}{xs:List Int}{l:List bW}:(bH S m xs l).length≤l.length:=by
 unfold bH;rw[List.length_map];exact List.length_filter_le _ _
theorem iK{S:aD}{m:List Bool}{xs:List Int}{l:List bW}{a:Int}:a∈bH S m xs l↔∃r∈l,r.1=a∧r.2.1∈xs∧gj S m r=true:=by
 unfold bH
 rw[List.mem_map]
 constructor
 ·rintro⟨r,hr,e⟩
  rw[List.mem_filter,Bool.and_eq_true,decide_eq_true_iff]at hr
  exact⟨r,hr.1,e,hr.2.1,hr.2.2⟩
 ·rintro⟨r,hr,e,h1,h2⟩
  refine⟨r,?_,e⟩
  rw[List.mem_filter,Bool.and_eq_true,decide_eq_true_iff]
  exact⟨hr,h1,h2⟩
theorem o0{S:aD}{m:List Bool}{r:bW}:gj S m r=true↔(Mk.obj S r.2.2.1∧¬Sp.has m r.2.2.1=true):=by
 unfold gj Mk.obj
 rw[Bool.and_eq_true,Bool.not_eq_true',Bool.not_eq_true]
theorem kf{S:aD}{m:List Bool}:∀(fs o:List Int) {a:Int},a∈fs.foldl (bV S m) o↔(a∈o∨(a∈fs∧Mk.obj S a∧¬Sp.has m a=true))
 |[],o,a=>by simp
 |b::fs,o,a=>by
  rw[List.foldl_cons,kf fs]
  have e:a∈bV S m o b↔(a∈o∨(a=b∧Mk.obj S a∧¬Sp.has m a=true)):=by
   have hi:gj S m (0,0,b,0,0,0,())=true↔(Mk.obj S b∧¬Sp.has m b=true):=o0
   unfold bV
   by_cases hc:(Mk.obj S b∧¬Sp.has m b=true)∧b∉o
   ·rw[if_pos ⟨hi.mpr hc.1,hc.2⟩,List.mem_append,List.mem_singleton]
    constructor
    ·rintro(h|rfl)
     ·exact .inl h
     ·exact .inr ⟨rfl,hc.1⟩
    ·rintro(h|h)
     ·exact .inl h
     ·exact .inr h.1
   ·rw[if_neg (fun g=>hc ⟨hi.mp g.1,g.2⟩)]
    constructor
    ·exact .inl
    ·rintro(h|⟨rfl,h⟩)
     ·exact h
     ·by_cases h2:a∈o
      ·exact h2
      ·exact absurd ⟨h,h2⟩ hc
  rw[e,List.mem_cons]
  constructor
  ·rintro((h|⟨h,h2⟩)|⟨h,h2⟩)
   ·exact .inl h
   ·exact .inr ⟨.inl h,h2⟩
   ·exact .inr ⟨.inr h,h2⟩
  ·rintro(h|⟨h|h,h2⟩)
   ·exact .inl (.inl h)
   ·exact .inl (.inr ⟨h,h2⟩)
   ·exact .inr ⟨h,h2⟩
theorem pv{S:aD}{m:List Bool}{fs:List Int}{a:Int}:a∈bA S m fs↔(a∈fs∧Mk.obj S a∧¬Sp.has m a=true):=by
 unfold bA;rw[kf];simp
namespace Gr
end Gr
end Go.Proofs.YtfepdmpplahloaaGreat
namespace Go.Proofs.YtfepdmpplahloaaGreat
open Go Go.Gl
variable{ρ0 ρ:FR}{L L':List aA}{Post:Value→List aA→Prop}{T:Tree}
theorem FK:zc Tryz.prog 3=[.int .i64 0]:=by kernel_rfl
theorem AP:zc Tryz.prog 129=[.slice none 0 0,.slice none 0 0,.slice none 0 0,.slice none 0 0]:=by kernel_rfl
theorem xe(b:Nat)(a:Int)(r:bW):Gl.Spec ρ Tryz.prog 183 ([.agg (rc r).toArray]++[.pointer (some ⟨b,0,none⟩)]) [aw b [i64 a]] RB fun v M=>v=(r.1==a)∧M=[aw b [i64 a]]:=by
 refine Spec.of (fun Q w h=>F.proc.common.wh.calls r (some ⟨b,0,none⟩) h) fun R=> ?_
 obtain⟨r1,r2,r3,r4,r5,r6,⟨⟩⟩:=r
 unfold F.proc.common.wh
 try simp only[aq,al]
 refine ax fun b1=> ?_
 refine ai (k:= .int .i64) (b:=b1) (off:=0) (x:=r1) (by rw[af]) tk rfl ?_
 refine ah ?_
 refine ai (k:= .int .i64) (b:=b) (off:=0) (x:=a) rfl tk rfl ?_
 exact aa (x:=(r1==a)) rfl ⟨rfl,rfl⟩ ag aB
theorem CM{S:aD}{m:List Bool}{xs:List Int}:(bG S m xs).length≤xs.length:=List.length_filter_le _ _
theorem AZ{A:List aA}(c t p room:Nat)(x:mY)(rf:ay)(l:List bW)(hrf:eX ρ rf 6 (l.flatMap rc))(hl:l.length<2^38)(S:aD)(cs:List aS)(hw:aO S cs)(hp:∀r∈l,r∈refsOf S)(q:Mk.St)(z:ay)(xs:List Int)(hz:Rd ρ A z 1 (xs.map i64))(hxl:xs.length<2^38)(hin:∀a∈xs,∃r∈l,r.1=a):
  Gl.Spec ρ Tryz.prog 147 [.pointer (some ⟨c,0,none⟩),.slice z.a z.n z.c] (ji c t p x rf::cP t p room q::A) RS
  fun r M=>M=aE r 1 ((bG S q.m xs).map i64)::ji c t p x rf::cP t p room q::A:=by
 refine Spec.of (fun Q w h=>F.proc.common.put.calls (some ⟨c,0,none⟩) z h) fun R=> ?_
 unfold F.proc.common.put
 try simp only[aq,al]
 have hn:=hz.len
 have hrn:rf.n=l.length:=by
  have:=hrf.1
  rw[gM (g:=rc) (m:=6) dQ]at this
  omega
 refine Tr.cq 1 ?_
 refine aP (fun m u M=>(fun(o:ay) (i:Int)=>M=aE o 1 ((bG S q.m (xs.take i.toNat)).map i64)::ji c t p x rf::cP t p room q::(A++R)∧0≤i∧i≤xs.length∧m=xs.length-i.toNat) u.1 u.2.1) xs.length ?_ ?_
 ·exact⟨rfl,by simp,by dsimp only;omega,by simp⟩
 ·rintro m ⟨(o:ay),(i:Int),⟨⟩⟩ M ⟨rfl,i0,i1,rfl⟩ X hX
  dsimp only at i0 i1 hX⊢
  refine aj (fun h=> ?_) (fun h=> ?_)
  ·replace h:i<(z.n:Int):=of_decide_eq_true h
   have hi:i.toNat<xs.length:=by omega
   have ht:xs.take (i+1).toNat=xs.take i.toNat++[xs.getD i.toNat 0]:=by rw[show(i+1).toNat=i.toNat+1 by omega,aJ 0 hi]
   have hmem:xs.getD i.toNat 0∈xs:=by rw[List.getD_eq_getElem?_getD,List.getElem?_eq_getElem hi];exact List.getElem_mem hi
   have hpl:=CM (S:=S) (m:=q.m) (xs:=xs.take i.toNat)
   rw[List.length_take]at hpl
   have hstep:bG S q.m (xs.take (i+1).toNat)=bG S q.m (xs.take i.toNat)++(if(Sp.has q.m (xs.getD i.toNat 0)&&decide ((Ob.get S (xs.getD i.toNat 0) 1).1>0))=true then[xs.getD i.toNat 0]else[]):=by
    unfold bG
    rw[ht,List.filter_append]
    congr 1
    by_cases hc:(Sp.has q.m (xs.getD i.toNat 0)&&decide ((Ob.get S (xs.getD i.toNat 0) 1).1>0))=true
    ·rw[if_pos hc,List.filter_cons_of_pos (p:=fun a=>Sp.has q.m a&&decide ((Ob.get S a 1).1>0)) hc];rfl
    ·rw[if_neg hc,List.filter_cons_of_neg (p:=fun a=>Sp.has q.m a&&decide ((Ob.get S a 1).1>0)) hc];rfl
   refine iP hz (aI.mn (aI.mn (aI.mn (aI.app A R)))) i0 (by omega) ?_
   generalize xs.getD i.toNat 0=a at*
   refine ax fun b5=> ?_
   rw[FK]
   refine aL (b:=b5) (off:=0) rfl tk (by simp) rfl ?_
   refine ah ?_
   refine ai (k:= .slice) (b:=c) (off:=9) (x:=rf) (by rw[af]) tk rfl ?_
   refine ae (qM rf l hrf (by omega) (i:= #[]) (c:= #[.pointer (some ⟨b5,0,none⟩)]) (A:=[aw b5 [i64 a]]) (g:=fun r=>r.1==a) Tryz.func183 (by kernel_rfl) (fun r hr=>xe b5 a r)) ag ?_
   rintro r8 M ⟨hidx,rfl⟩
   try simp only[aq,al]
   rcases hidx with ⟨rfl,hno⟩|⟨k,rfl,hk,hg⟩
   ·obtain⟨r,hr,e⟩:=hin a hmem
    have:=hno r hr
    dsimp only at this
    rw[e]at this
    simp at this
   have hki:l[k]? =some (l.getD k d6):=by rw[List.getD_eq_getElem?_getD,List.getElem?_eq_getElem hk];rfl
   have hrin:=hp _ (List.mem_of_getElem? hki)
   have hg:(l.getD k d6).1=a:=eq_of_beq hg
   generalize l.getD k d6=r at*
   obtain⟨hd,_,_,hr4⟩:=(fA hw).mp hrin
   have hq4:r.2.2.2.1=(Ob.get S a 1).1:=by rw[hr4,hg];rfl
   refine aK (aR [ji c t p x rf,aw b5 [i64 a]] ag ?_)
   refine ah ?_
   refine ar (k:= .ptr) (b:=c) (off:=0) (x:=some ⟨t,0,none⟩) (by rw[af]) tk rfl ?_
   refine ar (k:= .int .i64) (b:=b5) (off:=0) (x:=a) rfl tk rfl ?_
   refine ae (jP t p room q a) ag ?_
   rintro x' M ⟨rfl,rfl⟩
   try simp only[aq,al]
   refine aN ag (iw [ji c t p x rf,aw b5 [i64 a]] ag (fun w h=>h) ?_)
   rw[wrap64 (n:=i+1) (by omega) (by omega)]
   have go:∀(o':ay) (os:List Int),os=bG S q.m (xs.take (i+1).toNat)→Tr ρ ρ (aE o' 1 (os.map i64)::ji c t p x rf::cP t p room q::(A++R)) (X (o',i+1,())) (SP RS (fun r M=>M=aE r 1 ((bG S q.m xs).map i64)::ji c t p x rf::cP t p room q::A) R):=fun o' os e=>by
    refine hX (xs.length-(i+1).toNat) _ _ (by omega) ⟨?_,by dsimp only;omega,by dsimp only;omega,rfl⟩
    dsimp only
    rw[e]
   refine aj (fun h2=> ?_) (fun h2=> ?_)
   ·refine ah ?_
    refine ar (k:= .slice) (b:=c) (off:=9) (x:=rf) (by rw[af]) tk rfl ?_
    refine bJ hrf (by omega) (by omega) fun a0 ha=> ?_
    rw[Int.toNat_natCast]
    refine tL (k:= .int .i64) (j:=k*6+3) (x:=r.2.2.2.1) ha hrf (by rintro b o rfl;rw[af,af,Nat.add_assoc]) (by rw[eO (g:=rc) (m:=6) dQ hki (by omega)];rfl) ?_
    rw[hq4]
    refine aj (fun h3=> ?_) (fun h3=> ?_)
    ·refine ai (k:= .int .i64) (b:=b5) (off:=0) (x:=a) rfl tk rfl ?_
     refine gw (s:=o) (xs:=bG S q.m (xs.take i.toNat)) ca tk (by omega) fun r hr=> ?_
     refine Tr.drop (A:=aw b5 [i64 a]) tk ?_
     refine Tr.take (A:=cP t p room q) tk (Tr.take (A:=ji c t p x rf) tk (Tr.take (A:=aE r 1 ((bG S q.m (xs.take i.toNat)++[a]).map i64)) tk ?_))
     exact go r _ (by rw[hstep,if_pos (by rw[h2,h3];rfl)])
    ·refine Tr.drop (A:=aw b5 [i64 a]) tk ?_
     refine Tr.take (A:=cP t p room q) tk (Tr.take (A:=ji c t p x rf) tk (Tr.take (A:=aE o 1 ((bG S q.m (xs.take i.toNat)).map i64)) tk ?_))
     exact go o _ (by rw[hstep,if_neg (by rw[h3];simp),List.append_nil])
   ·refine Tr.drop (A:=aw b5 [i64 a]) tk ?_
    refine Tr.take (A:=cP t p room q) tk (Tr.take (A:=ji c t p x rf) tk (Tr.take (A:=aE o 1 ((bG S q.m (xs.take i.toNat)).map i64)) tk ?_))
    exact go o _ (by rw[hstep,if_neg (by rw[h2];simp),List.append_nil])
  ·replace h:¬i<(z.n:Int):=of_decide_eq_false h
   rw[List.take_of_length_le (by omega)]
   exact aa (x:=o) rfl rfl (.cons .here (.cons .here (.cons .here (aI.app A R)))) aB
end Go.Proofs.YtfepdmpplahloaaGreat
namespace Go.Proofs.YtfepdmpplahloaaGreat
open Go Go.Gl
variable{ρ0 ρ:FR}{L L':List aA}{Post:Value→List aA→Prop}{T:Tree}
abbrev Dp:List LK:=[.slice,.slice,.slice,.slice]
abbrev OE:RK:= .many [.g Dp,.l (.int .i64)]
abbrev FC(x:mY):Value:= .agg #[.slice x.ro.a x.ro.n x.ro.c,.slice x.fi.a x.fi.n x.fi.c,.int .i64 x.clock,.int .i64 x.free,.int .i64 x.aZ,.bool x.all,.int .i64 x.stack]
abbrev FG(x:mY):LTs [.slice,.slice,.int .i64,.int .i64,.int .i64,.bool,.int .i64]:=(x.ro,x.fi,x.clock,x.free,x.aZ,x.all,x.stack,())
abbrev FQ(x:mY):List Value:=[.slice x.ro.a x.ro.n x.ro.c,.slice x.fi.a x.fi.n x.fi.c,.int .i64 x.clock,.int .i64 x.free,.int .i64 x.aZ,.bool x.all,.int .i64 x.stack]
theorem BG{S:aD}{m:List Bool}{fs:List Int}:(bA S m fs).length≤fs.length:=by
 have:=iz S m fs []
 simpa[bA]using this
theorem sJ(p:Nat)(S:aD)(cs:List aS)(hw:aO S cs)(x:mY)(hx:x.Ok)(ro fs:List Int)(hro:eX ρ x.ro 1 (ro.map i64))(hfi:eX ρ x.fi 1 (fs.map i64))(hl1:ro.length<2^30)(hl2:fs.length<2^30)
  (hst:∀r∈refsOf S,r.2.2.2.2.1<9223372036854775808) (hs:1≤x.stack∧x.stack≤4096):
  Gl.Spec ρ Tryz.prog 110 [.pointer (some ⟨p,0,none⟩),FC x] [au p S cs] OE
  fun r M=>∃(s1 s2 s3 s4:ay) (l:List bW) (m2 m3:List Bool),r=((s1,s2,s3,s4,()),0,())∧lD S cs x ro fs l m2 m3∧
   M=[aE s1 1 ((aT S m2 m3 l).map i64),aE s2 1 ((bG S m3 (aT S m2 m3 l)).map i64),aE s3 1 ((bA S m2 fs).map i64),aE s4 1 ((Mk.all m3).map i64),au p S cs]:=by
 refine Spec.of (fun Q w h=>F.proc.Process.calls (some ⟨p,0,none⟩) (FG x) h) fun R=> ?_
 unfold F.proc.Process
 try simp only[aq,al]
 have hroom:x.stack.toNat≤4096:=by omega
 have hwl:=hw.wf.len
 have hwm:=hw.wf.gv
 refine ax fun b1=>ax fun b2=> ?_
 refine ai (k:= .int .i64) (b:=b1) (off:=6) (x:=x.stack) (by rw[af]) tk rfl ?_
 refine ae (zi p S cs hw x.stack hs.1 hs.2) ag ?_
 rintro x' M ⟨t,rfl,rfl⟩
 try simp only[aq,al]
 refine ak rfl ?_
 refine aK (aR [aw b1 (FQ x)] ag ?_)
 refine oz (b:=b1) (off:=0) (x:=FG x) [] rfl tk rfl ?_
 refine ae (xw p S cs hw) ag ?_
 rintro rf M ⟨l,rfl,hp,hsr⟩
 try simp only[aq,al]
 refine aN ag ?_
 have hll:l.length<2^14:=by rw[hp.length_eq];exact ub hw
 have hlm:∀r,r∈l↔r∈refsOf S:=fun r=>hp.mem_iff
 refine ax fun b8=> ?_
 refine Tr.cX (s:=rf) tk fun ρ1 hle1 hrf=> ?_
 replace hro:=hro.le hle1
 replace hfi:=hfi.le hle1
 refine aK ?_
 refine ai (k:= .ptr) (b:=b8) (off:=0) (x:=some ⟨t,0,none⟩) (by rw[af]) tk rfl ?_
 refine ai (k:= .slice) (b:=b1) (off:=0) (x:=x.ro) (by rw[af]) tk rfl ?_
 refine ae (ry t p x.stack.toNat hroom S cs hw _ Mk.EK x.ro ro hro (by omega)) ag ?_
 rintro x' M ⟨q1,rfl,H1,hq1⟩
 try simp only[aq,al]
 refine ae (tO b8 t p x.stack.toNat hroom x hx rf l hrf (by omega) (fun r hr=>hst r ((hlm r).mp hr)) S cs hw q1 H1) ag ?_
 rintro x' M ⟨q2,rfl,H2,hq2⟩
 try simp only[aq,al]
 refine ax fun b13=> ?_
 rw[AP]
 refine ax fun b14=> ?_
 refine Rd.bk (n:=2) (m:=1) (vs:=([1,2]:List Int).map i64) rfl tk fun ρ2 hle2 ro2=> ?_
 replace hrf:=hrf.le hle2
 replace hfi:=hfi.le hle2
 refine ae (l6 b8 t p x.stack.toNat x rf l hrf (by omega) S cs hw q2 ⟨some ⟨b14,0,none⟩,2,2⟩ [1,2] ro2 (by decide)) ag ?_
 rintro r15 M rfl
 try simp only[aq,al]
 refine aL (b:=b13) (off:=0) rfl tk (by simp) rfl ?_
 refine Tr.take (A:=aw b13 [.slice r15.a r15.n r15.c,.slice none 0 0,.slice none 0 0,.slice none 0 0]) tk ?_
 refine ae (te b8 t p x.stack.toNat hroom x rf fs hfi hl2 S cs hw q2 H2) ag ?_
 rintro r16 M ⟨q3,rfl,H3,hq3⟩
 try simp only[aq,al]
 refine aL (b:=b13) (off:=2) rfl tk (by simp) rfl ?_
 refine Tr.take (A:=aw b13 [.slice r15.a r15.n r15.c,.slice none 0 0,.slice r16.a r16.n r16.c,.slice none 0 0]) tk ?_
 refine aK (aR [aw b13 [.slice r15.a r15.n r15.c,.slice none 0 0,.slice r16.a r16.n r16.c,.slice none 0 0]] ag ?_)
 refine ar (k:= .slice) (b:=b13) (off:=0) (x:=r15) (by rw[af]) tk rfl ?_
 refine ax fun b19=>aN ag ?_
 refine Rd.bk (n:=1) (m:=1) (vs:=([3]:List Int).map i64) rfl tk fun ρ3 hle3 ro3=> ?_
 replace hrf:=hrf.le hle3
 refine ae (l6 b8 t p x.stack.toNat x rf l hrf (by omega) S cs hw q3 ⟨some ⟨b19,0,none⟩,1,1⟩ [3] ro3 (by decide)) ag ?_
 rintro r20 M rfl
 try simp only[aq,al]
 refine gV hle3 ag ?_
 have hc2:=kO (S:=S) (m:=q2.m) (xs:=[1,2]) (l:=l)
 have hc3:=kO (S:=S) (m:=q3.m) (xs:=[3]) (l:=l)
 refine Tr.jZ (s:=r20) (xs:=bH S q3.m [3] l) tk fun hn20=> ?_
 refine jA (s:=r15) (x:=r20) (xs:=bH S q2.m [1,2] l) (ys:=bH S q3.m [3] l) ca tk (Rd.sl tk (by simp[hn20])) (by omega) fun r21 h21=> ?_
 refine aL (b:=b13) (off:=0) rfl tk (by simp) rfl ?_
 refine Tr.take (A:=aw b13 [.slice r21.a r21.n r21.c,.slice none 0 0,.slice r16.a r16.n r16.c,.slice none 0 0]) tk ?_
 refine ai (k:= .slice) (b:=b13) (off:=0) (x:=r21) (by rw[af]) tk rfl ?_
 refine ae (AZ (A:=[aE r21 1 ((bH S q2.m [1,2] l++bH S q3.m [3] l).map i64)]) b8 t p x.stack.toNat x rf l hrf (by omega) S cs hw (fun r hr=>(hlm r).mp hr) q3 r21 (bH S q2.m [1,2] l++bH S q3.m [3] l) (Rd.sl .here (by simp[h21])) (by rw[List.length_append];omega) (fun a ha=> ?_)) ag ?_
 ·rcases List.mem_append.mp ha with ha|ha
  ·obtain⟨r,hr,e,_⟩:=iK.mp ha
   exact⟨r,hr,e⟩
  ·obtain⟨r,hr,e,_⟩:=iK.mp ha
   exact⟨r,hr,e⟩
 rintro r23 M rfl
 try simp only[aq,al]
 refine aL (b:=b13) (off:=1) rfl tk (by simp) rfl ?_
 refine Tr.take (A:=aw b13 [.slice r21.a r21.n r21.c,.slice r23.a r23.n r23.c,.slice r16.a r16.n r16.c,.slice none 0 0]) tk ?_
 refine ai (k:= .ptr) (b:=b8) (off:=0) (x:=some ⟨t,0,none⟩) (by rw[af]) tk rfl ?_
 have hl3:=H3.closed.len
 refine ae (pS t p x.stack.toNat q3 (by omega)) ag ?_
 rintro r25 M rfl
 try simp only[aq,al]
 refine aL (b:=b13) (off:=3) rfl tk (by simp) rfl ?_
 refine Tr.take (A:=aw b13 [.slice r21.a r21.n r21.c,.slice r23.a r23.n r23.c,.slice r16.a r16.n r16.c,.slice r25.a r25.n r25.c]) tk ?_
 refine bD (b:=b13) (off:=0) (x:=((r21,r23,r16,r25,()):LTs Dp)) [] rfl tk rfl ?_
 refine aL (b:=b2) (off:=0) rfl tk (by simp) rfl ?_
 refine Tr.take (A:=aw b2 [.slice r21.a r21.n r21.c,.slice r23.a r23.n r23.c,.slice r16.a r16.n r16.c,.slice r25.a r25.n r25.c]) tk ?_
 refine bD (b:=b2) (off:=0) (x:=((r21,r23,r16,r25,()):LTs Dp)) [] rfl tk rfl ?_
 refine aa (x:=((r21,r23,r16,r25,()),(0:Int),())) rfl ⟨r21,r23,r16,r25,l,q2.m,q3.m,rfl,⟨hp,DT hsr,H2.closed,H3.closed,fun a=> ?_,hq3⟩,rfl⟩ ag aB
 rw[hq2 a]
 have e1:∀a,Sp.has q1.m a=true↔Mk.jM S cs ro a:=fun a=>by
  rw[hq1 a,Mk.Fo];simp
 exact⟨fW.mono (fun r hr=>(hlm r).mp hr) ⟨rfl,rfl,rfl,rfl⟩ fun a h=>(e1 a).mp h,fW.mono (fun r hr=>(hlm r).mpr hr) ⟨rfl,rfl,rfl,rfl⟩ fun a h=>(e1 a).mpr h⟩
end Go.Proofs.YtfepdmpplahloaaGreat
