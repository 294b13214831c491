/- All parts of a runtime: made, ticking. -/
import Derived.Test.YtfepdmpplahloaaGreatGsMrg
import Derived.Test.YtfepdmpplahloaaGreatGsRfs2
import Derived.Test.YtfepdmpplahloaaGreatGsTg
set_option linter.unusedSimpArgs false
set_option linter.unusedVariables false
namespace Go.Proofs.YtfepdmpplahloaaGreat
open Go Go.Gl
variable{ρ0 ρ:FR}{L L':List Asn}{Post:Value→List Asn→Prop}{T:Tree}
structure Rt where
 S:Spc
 cs:List Cls
 rows:List (List Int)
 ser:Int
 hs:List Hn.Slot
 ro:List Int
 wa:List Int
 pe:List Int
 pg:Int
 rate:Int
 stack:Int
 ck:Int
 rn:Int
structure Pl where
 p:Nat
 r:Nat
 h:Nat
 o:Nat
 f:Nat
 b:Nat
abbrev Pl.cs(i:Pl)(x:Rt):List Value:=[.pointer (some ⟨i.r,0,none⟩),.pointer (some ⟨i.h,0,none⟩),.pointer (some ⟨i.o,0,none⟩),.pointer (some ⟨i.f,0,none⟩),.pointer (some ⟨i.b,0,none⟩),i64 x.pg,i64 x.rate,i64 x.stack,i64 x.ck,i64 x.rn]
abbrev Pl.A(i:Pl)(x:Rt):List Asn:=[blk i.p (i.cs x),RfA i.r i.b x.rows x.ser,HanA i.h x.hs,blk i.o (x.ro.map i64),FinA i.f i.b x.wa x.pe,HeapA i.b x.S x.cs]
def Rt.new(pg rate stack:Int):Rt:=⟨Sp.newSpc pg.toNat,[],[],0,List.replicate 512 (0,0),List.replicate 16 0,[],[],pg,rate,stack,0,0⟩
theorem root_new:Gl.Spec ρ Tryz.prog 38 [] [] (.one (.l .ptr)) fun r M=>∃p,r=some ⟨p,0,none⟩∧M=[blk p ((List.replicate 16 (0:Int)).map i64)]:=by
 refine Gl.Spec.of (fun Q w h=>F.root.New.calls h) fun R=> ?_
 unfold F.root.New
 refine en_nw fun b=> ?_
 exact en_rets (x:=some ⟨b,0,none⟩) rfl ⟨b,rfl,rfl⟩ tks ens
theorem root_roots(p:Nat)(ro:List Int)(hl:ro.length=16):Gl.Spec ρ Tryz.prog 26 [.pointer (some ⟨p,0,none⟩)] [blk p (ro.map i64)] RS
  fun r M=>r.n=16∧M=[SLc r 1 (ro.map i64),blk p (ro.map i64)]:=by
 refine Gl.Spec.of (fun Q w h=>F.root.Roots.Roots.calls (some ⟨p,0,none⟩) h) fun R=> ?_
 unfold F.root.Roots.Roots
 refine en_brf rfl (en_nn ?_)
 rw[fa_mk]
 refine en_call (clone (A:=[blk p (ro.map i64)]) ⟨some ⟨p,0,none⟩,16,16⟩ ro (Rd.cl .here rfl (by simp[hl])) (by omega)) tks ?_
 rintro r _ ⟨hr,rfl⟩
 try simp only[lca,lna]
 exact en_rets (x:=r) rfl ⟨by rw[hr,hl],rfl⟩ tks ens
theorem space_cap(p:Nat)(S:Spc)(hl:64≤S.ws.length)(hl2:S.ws.length<2^40):Gl.Spec ρ Tryz.prog 99 [.pointer (some ⟨p,0,none⟩)] [SpaceA p S] R1
  fun r M=>r=((S.ws.length-64:Nat):Int)∧M=[SpaceA p S]:=by
 refine Gl.Spec.of (fun Q w' h=>F.space.Space.Cap.calls (some ⟨p,0,none⟩) h) fun R=> ?_
 unfold F.space.Space.Cap
 refine en_brf rfl (en_nn (SpaceA.op tk fun pa pp ms ml ls ll h1 h2 n1 n2=> ?_))
 refine en_ld (k:= .ptr) (off:=0) (x:=some ⟨pa,0,none⟩) (by rw[fa_mk]) tk rfl ?_
 refine en_call (arena_len pa S.ws) tks ?_
 rintro x' M ⟨rfl,rfl⟩
 try simp only[lca,lna]
 refine Tr.close tks (SpaceA.cl (p:=p) (pa:=pa) (pp:=pp) (ms:=ms) (ml:=ml) (S:=S) (ls:=ls) (ll:=ll) h1 h2) ?_
 rw[wrap64 (by omega) (by omega)]
 refine en_rets (x:=((S.ws.length-64:Nat):Int)) ?_ ⟨rfl,rfl⟩ tks ens
 rw[show((S.ws.length:Nat):Int)-64=((S.ws.length-64:Nat):Int) by omega];rfl
theorem gc_new(pg rate stack:Int)(h:(1≤pg∧pg≤256)∧0≤rate∧(1≤stack∧stack≤4096)):Gl.Spec ρ Tryz.prog 21 [.agg #[i64 pg,i64 rate,i64 stack]] [] PE
  fun r M=>∃i:Pl,r=(some ⟨i.p,0,none⟩,0,())∧M=i.A (Rt.new pg rate stack):=by
 refine Gl.Spec.of (fun Q w h=>F.gc.New.calls (pg,rate,stack,()) h) fun R=> ?_
 unfold F.gc.New
 try simp only[lca,lna]
 refine en_nw fun b=> ?_
 refine en_ld (k:= .int .i64) (b:=b) (off:=0) (x:=pg) (by rw[fa_mk]) tk rfl ?_
 refine en_call (object_new pg h.1.1 h.1.2) tks ?_
 rintro _ _ ⟨pb,rfl,rfl⟩
 try simp only[lca,lna]
 refine en_brf rfl ?_
 refine en_ld (k:= .int .i64) (b:=b) (off:=1) (x:=rate) (by rw[fa_mk]) tk rfl ?_
 refine en_brf (by rw[decide_eq_false_iff_not];omega) ?_
 refine en_ld (k:= .int .i64) (b:=b) (off:=2) (x:=stack) (by rw[fa_mk]) tk rfl ?_
 refine en_call (stack_new stack h.2.2.1 h.2.2.2) tks ?_
 rintro _ _ ⟨pt,rfl,rfl⟩
 try simp only[lca,lna]
 refine en_brf rfl ?_
 refine Tr.drop (A:=StkA pt [] stack.toNat false) tk ?_
 refine en_drw (en_held [blk b [i64 pg,i64 rate,i64 stack]] tks ?_)
 try simp only[lca,lna]
 refine en_ldS (k:= .int .i64) (off:=0) (x:=pg) (by rw[fa_mk]) tk rfl ?_
 refine en_ldS (k:= .int .i64) (off:=1) (x:=rate) (by rw[fa_mk]) tk rfl ?_
 refine en_ldS (k:= .int .i64) (off:=2) (x:=stack) (by rw[fa_mk]) tk rfl ?_
 try simp only[lca,lna]
 refine en_call (rfs_new pb) tks ?_
 rintro _ _ ⟨pr,rfl,rfl⟩
 try simp only[lca,lna]
 refine en_chk tks ?_
 refine en_call han_new tks ?_
 rintro _ _ ⟨ph,rfl,rfl⟩
 try simp only[lca,lna]
 refine en_chk tks ?_
 refine en_call root_new tks ?_
 rintro _ _ ⟨po,rfl,rfl⟩
 try simp only[lca,lna]
 refine en_chk tks ?_
 refine en_call (fin_new pb) tks ?_
 rintro _ _ ⟨pf,rfl,rfl⟩
 try simp only[lca,lna]
 refine en_chk tks (en_nw fun p=> ?_)
 exact en_rets (x:=(some ⟨p,0,none⟩,(0:Int),())) rfl ⟨⟨p,pr,ph,po,pf,pb⟩,rfl,rfl⟩ tks ens
theorem gc_clock(i:Pl)(x:Rt):Gl.Spec ρ Tryz.prog 89 [.pointer (some ⟨i.p,0,none⟩)] [blk i.p (i.cs x)] R1 fun r M=>r=x.ck∧M=[blk i.p (i.cs x)]:=by
 refine Gl.Spec.of (fun Q w h=>F.gc.Parts.Clock.calls (some ⟨i.p,0,none⟩) h) fun R=> ?_
 unfold F.gc.Parts.Clock
 try simp only[lca,lna]
 refine en_brf rfl (en_nn ?_)
 refine en_ld (k:= .int .i64) (b:=i.p) (off:=8) (x:=x.ck) (by rw[fa_mk]) tk rfl ?_
 exact en_rets (x:=x.ck) rfl ⟨rfl,rfl⟩ tks ens
theorem gc_runs(i:Pl)(x:Rt):Gl.Spec ρ Tryz.prog 33 [.pointer (some ⟨i.p,0,none⟩)] [blk i.p (i.cs x)] R1 fun r M=>r=x.rn∧M=[blk i.p (i.cs x)]:=by
 refine Gl.Spec.of (fun Q w h=>F.gc.Parts.Runs.calls (some ⟨i.p,0,none⟩) h) fun R=> ?_
 unfold F.gc.Parts.Runs
 try simp only[lca,lna]
 refine en_brf rfl (en_nn ?_)
 refine en_ld (k:= .int .i64) (b:=i.p) (off:=9) (x:=x.rn) (by rw[fa_mk]) tk rfl ?_
 exact en_rets (x:=x.rn) rfl ⟨rfl,rfl⟩ tks ens
end Go.Proofs.YtfepdmpplahloaaGreat
