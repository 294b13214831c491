/- All parts of a runtime: made, ticking. -/
import Derived.Test.YtfepdmpplahloaaGreatGsMrg
import Derived.Test.YtfepdmpplahloaaGreatGsRfs2
import Derived.Test.YtfepdmpplahloaaGreatGsTg
set_option linter.unusedSimpArgs false
set_option linter.unusedVariables false
namespace Go.Proofs.YtfepdmpplahloaaGreat
open Go Go.Gl
variable{ρ0 ρ:FR}{L L':List aA}{Post:Value→List aA→Prop}{T:Tree}
structure Rt where
 S:aD
 cs:List aS
 rows:List (List Int)
 aU:Int
 hs:List Hn.Slot
 ro:List Int
 wa:List Int
 pe:List Int
 pg:Int
 aZ:Int
 stack:Int
 ck:Int
 rn:Int
structure Pl where
 p:Nat
 r:Nat
 h:Nat
 o:Nat
 f:Nat
 b:Nat
abbrev Pl.cs(i:Pl)(x:Rt):List Value:=[.pointer (some ⟨i.r,0,none⟩),.pointer (some ⟨i.h,0,none⟩),.pointer (some ⟨i.o,0,none⟩),.pointer (some ⟨i.f,0,none⟩),.pointer (some ⟨i.b,0,none⟩),i64 x.pg,i64 x.aZ,i64 x.stack,i64 x.ck,i64 x.rn]
abbrev Pl.A(i:Pl)(x:Rt):List aA:=[aw i.p (i.cs x),cL i.r i.b x.rows x.aU,gf i.h x.hs,aw i.o (x.ro.map i64),dw i.f i.b x.wa x.pe,au i.b x.S x.cs]
def Rt.new(pg aZ stack:Int):Rt:=⟨Sp.bB pg.toNat,[],[],0,List.replicate 512 (0,0),List.replicate 16 0,[],[],pg,aZ,stack,0,0⟩
theorem zH:Gl.Spec ρ Tryz.prog 38 [] [] (.one (.l .ptr)) fun r M=>∃p,r=some ⟨p,0,none⟩∧M=[aw p ((List.replicate 16 (0:Int)).map i64)]:=by
 refine Gl.Spec.of (fun Q w h=>F.root.dc.calls h) fun R=> ?_
 unfold F.root.dc
 refine ax fun b=> ?_
 exact aa (x:=some ⟨b,0,none⟩) rfl ⟨b,rfl,rfl⟩ ag aB
theorem vk(p:Nat)(ro:List Int)(hl:ro.length=16):Gl.Spec ρ Tryz.prog 26 [.pointer (some ⟨p,0,none⟩)] [aw p (ro.map i64)] RS
  fun r M=>r.n=16∧M=[aE r 1 (ro.map i64),aw p (ro.map i64)]:=by
 refine Gl.Spec.of (fun Q w h=>F.root.de.de.calls (some ⟨p,0,none⟩) h) fun R=> ?_
 unfold F.root.de.de
 refine ak rfl (ah ?_)
 rw[af]
 refine ae (clone (A:=[aw p (ro.map i64)]) ⟨some ⟨p,0,none⟩,16,16⟩ ro (Rd.cl .here rfl (by simp[hl])) (by omega)) ag ?_
 rintro r _ ⟨hr,rfl⟩
 try simp only[aq,al]
 exact aa (x:=r) rfl ⟨by rw[hr,hl],rfl⟩ ag aB
def Sf.later(c k:Int):Int:=Sf.none c+min (9223372036854775807-Sf.none c) (Sf.none k)
theorem uX(c k:Int)(hc:c<9223372036854775808)(hk:k<9223372036854775808)(b:Nat):Gl.Spec ρ Tryz.prog 134 [i64 c,.slice (some ⟨b,0,none⟩) 1 1] [aw b [i64 k]] R1
  fun r M=>r=Sf.later c k∧M=[aw b [i64 k]]:=by
 refine Gl.Spec.of (fun Q w h=>F.soft.rp.calls c ⟨some ⟨b,0,none⟩,1,1⟩ h) fun R=> ?_
 unfold F.soft.rp
 refine ae (fC c) ag ?_
 rintro x' M ⟨rfl,rfl⟩
 try simp only[aq,al]
 obtain⟨c0,c1⟩:=fN hc
 obtain⟨k0,k1⟩:=fN hk
 refine aP (I:=fun m u M=>M=aw b [i64 k]::R∧((m=1∧u=(Sf.none c,0,()))∨(m=0∧u=(Sf.later c k,1,())))) 1 ⟨rfl,.inl ⟨rfl,rfl⟩⟩ ?_
 rintro m _ _ ⟨rfl,⟨rfl,rfl⟩|⟨rfl,rfl⟩⟩ X hX
 ·try simp only[aq,al]
  refine aH rfl ?_
  refine iP (A:=[aw b [i64 k]]) (s:=⟨some ⟨b,0,none⟩,1,1⟩) (xs:=[k]) (Rd.cl .here rfl rfl) ag (by omega) (by rw[List.length_singleton];omega) ?_
  rw[show List.getD [k] (0:Int).toNat 0=k from rfl]
  refine ae (fC k) ag ?_
  rintro x' M ⟨rfl,rfl⟩
  try simp only[aq,al]
  have e1:IntKind.wrap .i64 (9223372036854775807-Sf.none c)=9223372036854775807-Sf.none c:=wrap64 (by omega) (by omega)
  rw[e1]
  have e2:(if(9223372036854775807-Sf.none c:Int)<Sf.none k then(9223372036854775807-Sf.none c:Int)else Sf.none k)=min (9223372036854775807-Sf.none c) (Sf.none k):=by
   rw[Int.min_def];split<;>split<;>omega
  rw[e2,wrap64 (n:=Sf.none c+min (9223372036854775807-Sf.none c) (Sf.none k)) (by omega) (by omega)]
  exact hX 0 _ _ (by omega) ⟨rfl,.inr ⟨rfl,rfl⟩⟩
 ·try simp only[aq,al]
  refine ak rfl ?_
  exact aa (x:=Sf.later c k) rfl ⟨rfl,rfl⟩ ag aB
theorem qK(p:Nat)(S:aD)(hl:64≤S.ws.length)(hl2:S.ws.length<2^40):Gl.Spec ρ Tryz.prog 99 [.pointer (some ⟨p,0,none⟩)] [aF p S] R1
  fun r M=>r=((S.ws.length-64:Nat):Int)∧M=[aF p S]:=by
 refine Gl.Spec.of (fun Q w' h=>F.space.bn.Cap.calls (some ⟨p,0,none⟩) h) fun R=> ?_
 unfold F.space.bn.Cap
 refine ak rfl (ah (aF.op tk fun pa pp ms ml ls ll h1 h2 n1 n2=> ?_))
 refine ai (k:= .ptr) (off:=0) (x:=some ⟨pa,0,none⟩) (by rw[af]) tk rfl ?_
 refine ae (m7 pa S.ws) ag ?_
 rintro x' M ⟨rfl,rfl⟩
 try simp only[aq,al]
 refine Tr.close ag (aF.cl (p:=p) (pa:=pa) (pp:=pp) (ms:=ms) (ml:=ml) (S:=S) (ls:=ls) (ll:=ll) h1 h2) ?_
 rw[wrap64 (by omega) (by omega)]
 refine aa (x:=((S.ws.length-64:Nat):Int)) ?_ ⟨rfl,rfl⟩ ag aB
 rw[show((S.ws.length:Nat):Int)-64=((S.ws.length-64:Nat):Int) by omega];rfl
theorem AA(pg aZ stack:Int)(h:(1≤pg∧pg≤256)∧0≤aZ∧(1≤stack∧stack≤4096)):Gl.Spec ρ Tryz.prog 21 [.agg #[i64 pg,i64 aZ,i64 stack]] [] PE
  fun r M=>∃i:Pl,r=(some ⟨i.p,0,none⟩,0,())∧M=i.A (Rt.new pg aZ stack):=by
 refine Gl.Spec.of (fun Q w h=>F.gc.dc.calls (pg,aZ,stack,()) h) fun R=> ?_
 unfold F.gc.dc
 try simp only[aq,al]
 refine ax fun b=> ?_
 refine ai (k:= .int .i64) (b:=b) (off:=0) (x:=pg) (by rw[af]) tk rfl ?_
 refine ae (vI pg h.1.1 h.1.2) ag ?_
 rintro _ _ ⟨pb,rfl,rfl⟩
 try simp only[aq,al]
 refine ak rfl ?_
 refine ai (k:= .int .i64) (b:=b) (off:=1) (x:=aZ) (by rw[af]) tk rfl ?_
 refine ak (by rw[decide_eq_false_iff_not];omega) ?_
 refine ai (k:= .int .i64) (b:=b) (off:=2) (x:=stack) (by rw[af]) tk rfl ?_
 refine ae (qE stack h.2.2.1 h.2.2.2) ag ?_
 rintro _ _ ⟨pt,rfl,rfl⟩
 try simp only[aq,al]
 refine ak rfl ?_
 refine Tr.drop (A:=dF pt [] stack.toNat false) tk ?_
 refine aK (aR [aw b [i64 pg,i64 aZ,i64 stack]] ag ?_)
 try simp only[aq,al]
 refine ar (k:= .int .i64) (off:=0) (x:=pg) (by rw[af]) tk rfl ?_
 refine ar (k:= .int .i64) (off:=1) (x:=aZ) (by rw[af]) tk rfl ?_
 refine ar (k:= .int .i64) (off:=2) (x:=stack) (by rw[af]) tk rfl ?_
 try simp only[aq,al]
 refine ae (BT pb) ag ?_
 rintro _ _ ⟨pr,rfl,rfl⟩
 try simp only[aq,al]
 refine aN ag ?_
 refine ae Ct ag ?_
 rintro _ _ ⟨ph,rfl,rfl⟩
 try simp only[aq,al]
 refine aN ag ?_
 refine ae zH ag ?_
 rintro _ _ ⟨po,rfl,rfl⟩
 try simp only[aq,al]
 refine aN ag ?_
 refine ae (B2 pb) ag ?_
 rintro _ _ ⟨pf,rfl,rfl⟩
 try simp only[aq,al]
 refine aN ag (ax fun p=> ?_)
 exact aa (x:=(some ⟨p,0,none⟩,(0:Int),())) rfl ⟨⟨p,pr,ph,po,pf,pb⟩,rfl,rfl⟩ ag aB
theorem CY(i:Pl)(x:Rt)(k:Int)(hc:x.ck<9223372036854775808)(hk:k<9223372036854775808):Gl.Spec ρ Tryz.prog 98 [.pointer (some ⟨i.p,0,none⟩),i64 k] [aw i.p (i.cs x)] (.many [])
  fun _ M=>M=[aw i.p (i.cs {x with ck:=Sf.later x.ck k})]:=by
 refine Gl.Spec.of (fun Q w h=>F.gc.bY.Br.calls (some ⟨i.p,0,none⟩) k h) fun R=> ?_
 unfold F.gc.bY.Br
 try simp only[aq,al]
 refine aH rfl (ah ?_)
 refine ai (k:= .int .i64) (b:=i.p) (off:=8) (x:=x.ck) (by rw[af]) tk rfl ?_
 refine ax fun b=> ?_
 refine ae (uX x.ck k hc hk b) ag ?_
 rintro x' M ⟨rfl,rfl⟩
 try simp only[aq,al]
 refine ah ?_
 refine aL (b:=i.p) (off:=8) (by rw[af]) tk (by simp) rfl ?_
 exact aa (x:=()) rfl rfl ag aB
theorem tI(i:Pl)(x:Rt):Gl.Spec ρ Tryz.prog 89 [.pointer (some ⟨i.p,0,none⟩)] [aw i.p (i.cs x)] R1 fun r M=>r=x.ck∧M=[aw i.p (i.cs x)]:=by
 refine Gl.Spec.of (fun Q w h=>F.gc.bY.Clock.calls (some ⟨i.p,0,none⟩) h) fun R=> ?_
 unfold F.gc.bY.Clock
 try simp only[aq,al]
 refine ak rfl (ah ?_)
 refine ai (k:= .int .i64) (b:=i.p) (off:=8) (x:=x.ck) (by rw[af]) tk rfl ?_
 exact aa (x:=x.ck) rfl ⟨rfl,rfl⟩ ag aB
theorem wR(i:Pl)(x:Rt):Gl.Spec ρ Tryz.prog 33 [.pointer (some ⟨i.p,0,none⟩)] [aw i.p (i.cs x)] R1 fun r M=>r=x.rn∧M=[aw i.p (i.cs x)]:=by
 refine Gl.Spec.of (fun Q w h=>F.gc.bY.CC.calls (some ⟨i.p,0,none⟩) h) fun R=> ?_
 unfold F.gc.bY.CC
 try simp only[aq,al]
 refine ak rfl (ah ?_)
 refine ai (k:= .int .i64) (b:=i.p) (off:=9) (x:=x.rn) (by rw[af]) tk rfl ?_
 exact aa (x:=x.rn) rfl ⟨rfl,rfl⟩ ag aB
end Go.Proofs.YtfepdmpplahloaaGreat
