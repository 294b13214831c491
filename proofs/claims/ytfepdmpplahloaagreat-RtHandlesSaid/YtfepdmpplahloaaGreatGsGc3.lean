/- Collections. -/
import Derived.Test.YtfepdmpplahloaaGreatGsGc2
set_option linter.unusedSimpArgs false
set_option linter.unusedVariables false
namespace Go.Proofs.YtfepdmpplahloaaGreat
open Go Go.Gl
variable{ρ0 ρ:FR}{L L':List Asn}{Post:Value→List Asn→Prop}{T:Tree}
def QB(S:Spc):Prop:=∀a,Qu.isR S a=true→(Ob.get S a 1).1<2^62
def NZ(rows:List (List Int)):Prop:=∀r∈rows,∀a∈r,a≠0
theorem QB.put{S:Spc}{cs:List Cls}(hw:HWf S cs)(H:QB S){a i x:Int}(hx:i≠1∨x<2^62):QB (Ob.put S a i x).2:=by
 intro b hb
 have hb':Qu.isR S b=true:=by
  unfold Qu.isR at hb⊢
  rw[put_head hw]at hb;exact hb
 obtain⟨hd,hh,hk⟩:=isR_head hb'
 have hn:=isR_n hw hh hk
 by_cases g:(Ob.fieldAt S a i).2=0
 ·obtain⟨ha,hha,h0,h1,_⟩:=Ob.fieldAt_ok hw g
  rw[((Ob.put_keep hw (x:=x) hha h0 h1).2 _ _ hh).2 1 (by omega) (by omega)]
  split
  ·rename_i e
   rcases hx with h|h
   ·exact absurd e.2.symm h
   ·exact h
  ·exact H b hb'
 ·have e:(Ob.put S a i x).2=S:=by unfold Ob.put;rw[if_pos g]
  rw[e];exact H b hb'
theorem isR_ne{S:Spc}{cs:List Cls}(hw:HWf S cs){a:Int}(h:Qu.isR S a=true):a≠0:=fun e=>by
 obtain⟨hd,hh,_⟩:=isR_head h
 rw[e]at hh
 exact Mk.obj_zero hw (by unfold Mk.obj;rw[hh];rfl)
theorem pushS_ok{S:Spc}{cs:List Cls}(hw:HWf S cs)(hq:QB S)(rows:List (List Int))(i a:Int):HWf (Qu.pushS S rows i a) cs∧QB (Qu.pushS S rows i a):=by
 unfold Qu.pushS
 split
 ·split
  ·exact⟨hw.put _ _ _,hq.put hw (.inl (by decide))⟩
  ·exact⟨(hw.put _ _ _).put _ _ _,(hq.put hw (.inl (by decide))).put (hw.put _ _ _) (.inl (by decide))⟩
 ·exact⟨hw,hq⟩
theorem pushQ_ok{S:Spc}{cs:List Cls}(hw:HWf S cs){rows:List (List Int)}(hz:NZ rows)(i a:Int):NZ (Qu.pushQ S rows i a):=by
 unfold Qu.pushQ
 split
 ·rename_i h
  rw[Bool.and_eq_true]at h
  intro r hr b hb
  rcases List.mem_or_eq_of_mem_set hr with hr|rfl
  ·exact hz r hr b hb
  ·rcases List.mem_append.mp hb with hb|hb
   ·exact hz _ (row_mem h.1) b hb
   ·rw[List.mem_singleton]at hb;subst hb;exact isR_ne hw h.2
 ·exact hz
theorem enq_ok{S:Spc}{cs:List Cls}(hw:HWf S cs)(hq:QB S){rows:List (List Int)}(hz:NZ rows)(a:Int):HWf (Rf.enq S rows a).2.1 cs∧QB (Rf.enq S rows a).2.1∧NZ (Rf.enq S rows a).2.2∧(Qu.isR S a=true→Rf.qn S a<2^62):=by
 have hw1:=hw.put a 0 0
 have hq1:QB (Ob.put S a 0 0).2:=hq.put hw (.inl (by decide))
 refine⟨?_,?_,?_,fun h=> ?_⟩
 ·unfold Rf.enq
  split
  ·split
   ·exact hw1
   ·split
    ·exact(pushS_ok hw1 hq1 _ _ _).1
    ·exact(pushS_ok hw1 hq1 _ _ _).1.put _ _ _
  ·exact hw
 ·unfold Rf.enq
  split
  ·split
   ·exact hq1
   ·split
    ·exact(pushS_ok hw1 hq1 _ _ _).2
    ·exact(pushS_ok hw1 hq1 _ _ _).2.put (pushS_ok hw1 hq1 _ _ _).1 (.inr (by decide))
  ·exact hq
 ·unfold Rf.enq
  split
  ·split
   ·exact hz
   ·split
    ·exact pushQ_ok hw1 hz _ _
    ·exact pushQ_ok hw1 hz _ _
  ·exact hz
 ·refine hq1 a ?_
  unfold Qu.isR at h⊢
  rw[put_head hw];exact h
theorem clear_ok{cs:List Cls}:∀{l:List Int} {S:Spc},HWf S cs→QB S→HWf (Rf.clr S l) cs∧QB (Rf.clr S l)
 |[],_,hw,hq=>⟨hw,hq⟩
 |a::l,S,hw,hq=>clear_ok (l:=l) (hw.put a 0 0) (hq.put hw (.inl (by decide)))
def Rf.enqs(S:Spc)(rows:List (List Int))(l:List Int):Spc×List (List Int):=l.foldl (fun q a=>(Rf.enq q.1 q.2 a).2) (S,rows)
theorem enqs_ok{cs:List Cls}:∀{l:List Int} {S:Spc} {rows:List (List Int)},HWf S cs→QB S→NZ rows→HWf (Rf.enqs S rows l).1 cs∧QB (Rf.enqs S rows l).1∧NZ (Rf.enqs S rows l).2
 |[],_,_,hw,hq,hz=>⟨hw,hq,hz⟩
 |a::l,S,rows,hw,hq,hz=>by
  obtain⟨h1,h2,h3,_⟩:=enq_ok hw hq hz a
  exact enqs_ok (l:=l) (S:=(Rf.enq S rows a).2.1) (rows:=(Rf.enq S rows a).2.2) h1 h2 h3
theorem enqs_snoc(S:Spc)(rows:List (List Int))(l:List Int)(a:Int):Rf.enqs S rows (l++[a])=(Rf.enq (Rf.enqs S rows l).1 (Rf.enqs S rows l).2 a).2:=by
 unfold Rf.enqs;rw[List.foldl_append];rfl
def Rt.after(x:Rt)(cl pu pn lv:List Int):Rt:=
 {x with S:=Sw.sweep (Rf.enqs (Rf.clear x.S cl).2 x.rows pu).1 lv,rows:=(Rf.enqs (Rf.clear x.S cl).2 x.rows pu).2,wa:=(Fn.pend x.wa x.pe pn).1,pe:=(Fn.pend x.wa x.pe pn).2,rn:=x.rn+1}
def Rt.in7(x:Rt)(s1 s2:Slc)(all:Bool):In7:=⟨s1,s2,x.ck,x.free,x.rate,all,x.stack⟩
structure Rt.Ok2(x:Rt):Prop extends x.Ok where
 qb:QB x.S
 st:∀r∈refsOf x.S,r.2.2.2.2.1<9223372036854775808
 ck:x.ck<9223372036854775808
 rate:x.rate<9223372036854775808
 stack:1≤x.stack∧x.stack≤4096
 rn:0≤x.rn∧x.rn<2^60
theorem nz_of{S:Spc}{rows:List (List Int)}(h:RowsOk S rows):NZ rows:=fun r hr a ha=>(h.lk r hr).ne a ha
abbrev sl4(a b c d:Slc):List Value:=[.slice a.a a.n a.c,.slice b.a b.n b.c,.slice c.a c.n c.c,.slice d.a d.n d.c]
theorem gc_collect(i:Pl)(x:Rt)(H:x.Ok2)(all:Bool):Gl.Spec ρ Tryz.prog 68 [.pointer (some ⟨i.p,0,none⟩),.bool all] (i.A x) OE
  fun r M=>∃(z1 z2 s1 s2 s3 s4:Slc) (l:List Rf6) (m2 m3:List Bool),Coll x.S x.cs (x.in7 z1 z2 all) x.roots x.wa l m2 m3∧r=((s1,s2,s3,s4,()),0,())∧
   M=[SLc s1 1 ((clrOf x.S m2 m3 l).map i64),SLc s2 1 ((putOf x.S m3 (clrOf x.S m2 m3 l)).map i64),SLc s3 1 ((pendOf x.S m2 x.wa).map i64),SLc s4 1 ((Mk.all m3).map i64)]++
    i.A (x.after (clrOf x.S m2 m3 l) (putOf x.S m3 (clrOf x.S m2 m3 l)) (pendOf x.S m2 x.wa) (Mk.all m3)):=by
 refine Gl.Spec.of (fun Q w h=>F.gc.Parts.Collect.calls (some ⟨i.p,0,none⟩) all h) fun R=> ?_
 unfold F.gc.Parts.Collect
 try simp only[lca,lna]
 have hw:=H.hw
 refine en_nw fun b1=> ?_
 rw[zcOut]
 refine en_brf rfl ?_
 refine en_jn (fun j M=>∃(b:Nat) (z1 z2 s1 s2 s3 s4:Slc) (l:List Rf6) (m2 m3:List Bool),j=(⟨b,0,none⟩,0,())∧Coll x.S x.cs (x.in7 z1 z2 all) x.roots x.wa l m2 m3∧
  M=[blk b (sl4 s1 s2 s3 s4),blk b1 (sl4 ⟨none,0,0⟩ ⟨none,0,0⟩ ⟨none,0,0⟩ ⟨none,0,0⟩),SLc s1 1 ((clrOf x.S m2 m3 l).map i64),SLc s2 1 ((putOf x.S m3 (clrOf x.S m2 m3 l)).map i64),SLc s3 1 ((pendOf x.S m2 x.wa).map i64),SLc s4 1 ((Mk.all m3).map i64)]++(i.A x++R)) ?_ ?_
 ·rintro _ _ ⟨b,z1,z2,s1,s2,s3,s4,l,m2,m3,rfl,hco,rfl⟩
  have hlf:=Coll.few hw hco
  have hcl:(clrOf x.S m2 m3 l).length<2^20:=by
   unfold clrOf
   rw[List.length_append]
   have h1:=clear_len (S:=x.S) (m:=m2) (xs:=[1,2]) (l:=l)
   have h2:=clear_len (S:=x.S) (m:=m3) (xs:=[3]) (l:=l)
   omega
  have hpu:(putOf x.S m3 (clrOf x.S m2 m3 l)).length<2^20:=by
   unfold putOf
   have:=List.length_filter_le (fun a=>Sp.has m3 a&&decide ((Ob.get x.S a 1).1>0)) (clrOf x.S m2 m3 l)
   omega
  have hpn:(pendOf x.S m2 x.wa).length≤x.wa.length:=pend_le
  have hlv:(Mk.all m3).length<2^40:=by
   have h1:=Mk.all_len (m:=m3)
   have h2:=hco.c3.len
   have hwl:=H.hw.wf.len
   have hwm:=H.hw.wf.most
   omega
  have hwa:=H.wa
  have hpe:=H.pe
  unfold Rt.after
  generalize hce:clrOf x.S m2 m3 l=cl at*
  generalize hpue:putOf x.S m3 cl=pu at*
  generalize hpne:pendOf x.S m2 x.wa=pn at*
  generalize hlve:Mk.all m3=lv at*
  refine en_brf rfl (en_drw (en_nn ?_))
  refine en_ld (k:= .ptr) (b:=i.p) (off:=0) (x:=some ⟨i.r,0,none⟩) (by rw[fa_mk]) tk rfl ?_
  refine en_ld (k:= .slice) (b:=b) (off:=0) (x:=s1) (by rw[fa_mk]) tk rfl ?_
  refine en_call (Spec.own (s:=s1) (m:=1) (xs:=cl.map i64) fun ρ1 hle1 r1=>rfs_clear i.r i.b x.S x.cs hw x.rows x.ser s1 cl r1 (by omega)) tks ?_
  rintro _ _ ⟨_,⟨rfl,rfl⟩,rfl⟩
  try simp only[lca,lna]
  refine en_ld (k:= .slice) (b:=b) (off:=1) (x:=s2) (by rw[fa_mk]) tk rfl ?_
  have hS1:HWf (Rf.clear x.S cl).2 x.cs∧QB (Rf.clear x.S cl).2:=by
   unfold Rf.clear
   split
   ·exact clear_ok hw H.qb
   ·exact⟨hw,H.qb⟩
  generalize hSe:(Rf.clear x.S cl).2=S1 at*
  refine Tr.nlen (s:=s2) (xs:=pu) tk fun hn2=> ?_
  refine Tr.perm (Takes.perm (M:=[SLc s1 1 (cl.map i64),SLc s2 1 (pu.map i64),SLc s3 1 (pn.map i64),SLc s4 1 (lv.map i64),blk b (sl4 s1 s2 s3 s4),blk b1 (sl4 ⟨none,0,0⟩ ⟨none,0,0⟩ ⟨none,0,0⟩ ⟨none,0,0⟩),blk i.p (i.cs x),RfA i.r i.b x.rows x.ser,HanA i.h x.hs,blk i.o (x.ro.map i64),FinA i.f i.b x.wa x.pe,HeapA i.b S1 x.cs]) tks) ?_
  refine en_lp (I:=fun m u M=>∃j:Nat,j≤pu.length∧m=pu.length-j∧u=((j:Int),())∧
   M=[SLc s1 1 (cl.map i64),SLc s2 1 (pu.map i64),SLc s3 1 (pn.map i64),SLc s4 1 (lv.map i64),blk b (sl4 s1 s2 s3 s4),blk b1 (sl4 ⟨none,0,0⟩ ⟨none,0,0⟩ ⟨none,0,0⟩ ⟨none,0,0⟩),blk i.p (i.cs x),RfA i.r i.b (Rf.enqs S1 x.rows (pu.take j)).2 x.ser,HanA i.h x.hs,blk i.o (x.ro.map i64),FinA i.f i.b x.wa x.pe,HeapA i.b (Rf.enqs S1 x.rows (pu.take j)).1 x.cs]++R) pu.length ⟨0,by omega,rfl,rfl,rfl⟩ ?_
  rintro m _ _ ⟨j,hj,rfl,rfl,rfl⟩ X hX
  try simp only[lca,lna]
  refine en_br (fun hc=> ?_) (fun hc=> ?_)
  ·have hj':(j:Int)<(s2.n:Nat):=of_decide_eq_true hc
   have hjl:j<pu.length:=by omega
   refine en_getSL (s:=s2) (xs:=pu) tk (by omega) (by omega) ?_
   rw[Int.toNat_natCast]
   refine en_nn ?_
   refine en_ld (k:= .ptr) (b:=i.p) (off:=0) (x:=some ⟨i.r,0,none⟩) (by rw[fa_mk]) tk rfl ?_
   obtain⟨e1,e2,e3⟩:=enqs_ok (l:=pu.take j) hS1.1 hS1.2 (nz_of H.rows)
   have e4:=(enq_ok e1 e2 e3 (pu.getD j 0)).2.2.2
   refine en_call (rfs_enqueue i.r i.b (Rf.enqs S1 x.rows (pu.take j)).1 x.cs e1 (Rf.enqs S1 x.rows (pu.take j)).2 e3 x.ser (pu.getD j 0) e4) tks ?_
   rintro _ _ ⟨rfl,rfl⟩
   try simp only[lca,lna]
   rw[wrap64 (by omega) (by omega)]
   have es:Rf.enqs S1 x.rows (pu.take (j+1))=(Rf.enq (Rf.enqs S1 x.rows (pu.take j)).1 (Rf.enqs S1 x.rows (pu.take j)).2 (pu.getD j 0)).2:=by rw[take_succ_getD 0 hjl,enqs_snoc]
   rw[←es]
   exact Tr.perm (Takes.perm (M:=[SLc s1 1 (cl.map i64),SLc s2 1 (pu.map i64),SLc s3 1 (pn.map i64),SLc s4 1 (lv.map i64),blk b (sl4 s1 s2 s3 s4),blk b1 (sl4 ⟨none,0,0⟩ ⟨none,0,0⟩ ⟨none,0,0⟩ ⟨none,0,0⟩),blk i.p (i.cs x),RfA i.r i.b (Rf.enqs S1 x.rows (pu.take (j+1))).2 x.ser,HanA i.h x.hs,blk i.o (x.ro.map i64),FinA i.f i.b x.wa x.pe,HeapA i.b (Rf.enqs S1 x.rows (pu.take (j+1))).1 x.cs]) tks) (hX (pu.length-(j+1)) _ _ (by omega) ⟨j+1,by omega,rfl,rfl,rfl⟩)
  ·have hj':¬(j:Int)<(s2.n:Nat):=of_decide_eq_false hc
   rw[List.take_of_length_le (by omega)]
   obtain⟨e1,e2,e3⟩:=enqs_ok (l:=pu) hS1.1 hS1.2 (nz_of H.rows)
   generalize hq:Rf.enqs S1 x.rows pu=q at*
   obtain⟨S2,rows2⟩:=q
   dsimp only at*
   refine en_drw (en_nn ?_)
   refine en_ld (k:= .ptr) (b:=i.p) (off:=3) (x:=some ⟨i.f,0,none⟩) (by rw[fa_mk]) tk rfl ?_
   refine en_ld (k:= .slice) (b:=b) (off:=2) (x:=s3) (by rw[fa_mk]) tk rfl ?_
   refine en_call (Spec.own (s:=s3) (m:=1) (xs:=pn.map i64) fun ρ1 hle1 r1=>fin_pend i.f i.b x.wa x.pe s3 pn r1 (by omega)) tks ?_
   rintro _ _ ⟨_,rfl,rfl⟩
   try simp only[lca,lna]
   refine en_drw (en_nn ?_)
   refine en_ld (k:= .ptr) (b:=i.p) (off:=4) (x:=some ⟨i.b,0,none⟩) (by rw[fa_mk]) tk rfl ?_
   refine en_ld (k:= .slice) (b:=b) (off:=3) (x:=s4) (by rw[fa_mk]) tk rfl ?_
   refine Tr.nlen (s:=s4) (xs:=lv) tk fun hn4=> ?_
   refine en_call (sweep_sweep i.b S2 x.cs e1 (A:=[SLc s4 1 (lv.map i64)]) s4 lv (Rd.sl .here (by rw[List.length_map];omega)) hlv) tks ?_
   rintro _ _ ⟨rfl,rfl⟩
   try simp only[lca,lna]
   refine en_nn ?_
   refine en_ld (k:= .int .i64) (b:=i.p) (off:=9) (x:=x.rn) (by rw[fa_mk]) tk rfl ?_
   have hrn:=H.rn
   rw[wrap64 (n:=x.rn+1) (by omega) (by omega)]
   refine en_nn ?_
   refine en_st (b:=i.p) (off:=9) (by rw[fa_mk]) tk (by simp) rfl ?_
   refine en_ldg (b:=b) (off:=0) (x:=(s1,s2,s3,s4,())) [] rfl tk rfl ?_
   refine en_st (b:=b1) (off:=0) rfl tk (by simp) rfl ?_
   refine en_ldg (b:=b1) (off:=0) (x:=(s1,s2,s3,s4,())) [] rfl tk rfl ?_
   have h2:S2=(Rf.enqs S1 x.rows pu).1:=by rw[hq]
   have h3:rows2=(Rf.enqs S1 x.rows pu).2:=by rw[hq]
   clear hq
   subst h2 h3 hSe hlve hpne hpue hce
   exact en_rets (x:=((s1,s2,s3,s4,()),(0:Int),())) rfl ⟨z1,z2,s1,s2,s3,s4,l,m2,m3,hco,rfl,rfl⟩ tks ens
 ·intro X hX
  refine en_drw (en_held [blk i.p (i.cs x)] tks ?_)
  refine en_nn (en_ldS (k:= .ptr) (b:=i.p) (off:=4) (x:=some ⟨i.b,0,none⟩) (by rw[fa_mk]) tk rfl ?_)
  have hroots:x.roots.length<2^30:=by
   have h1:=Mg.merge_len [(Hn.all x.hs).map (·.2),x.ro,x.rows.flatMap (·.take 1),x.pe]
   have h2:(Hn.all x.hs).length≤512:=by unfold Hn.all;rw[H.hs.len];exact Hn.all_len 512
   have h3:=firsts_len (rows:=x.rows)
   have h4:=H.rows.few
   have h5:=H.pe
   have h6:=H.ro
   simp only[List.flatten_cons,List.flatten_nil,List.length_append,List.length_nil,List.length_map]at h1
   unfold Rt.roots
   omega
  have hful:=used_le H.hw.wf
  have hwl:=H.hw.wf.len
  have hwm:=H.hw.wf.most
  have proc:∀(ρ':FR) (s1 s2:Slc),RoS ρ' s1 1 (x.roots.map i64)→RoS ρ' s2 1 (x.wa.map i64)→Gl.Spec ρ' Tryz.prog 110 [.pointer (some ⟨i.b,0,none⟩),inV (x.in7 s1 s2 all)] [HeapA i.b x.S x.cs] OE _:=fun ρ' s1 s2 r1 r2=>
   proc_process i.b x.S x.cs H.hw (x.in7 s1 s2 all) ⟨H.ck,(by show x.free<_;unfold Rt.free Rt.used;omega),H.rate⟩ x.roots x.wa r1 r2 hroots (by have:=H.wa;omega) H.st H.stack
  refine en_both ?_ ?_
  ·refine en_call (gc_in i x H.toOk all) tks ?_
   rintro _ _ ⟨z1,z2,rfl,hz1,hz2,rfl⟩
   try simp only[lca,lna]
   refine en_chk tks (en_both ?_ ?_)
   ·refine en_call (Spec.own (s:=z1) (m:=1) (xs:=x.roots.map i64) fun ρ1 hle1 r1=>Spec.own (s:=z2) (m:=1) (xs:=x.wa.map i64) fun ρ2 hle2 r2=>proc ρ2 z1 z2 (r1.le hle2) r2) tks ?_
    rintro _ _ ⟨_,⟨_,⟨s1,s2,s3,s4,l,m2,m3,rfl,hco,rfl⟩,rfl⟩,rfl⟩
    try simp only[lca,lna]
    refine en_nw fun b=> ?_
    refine en_st (b:=b) (off:=0) rfl tk (by simp) rfl ?_
    refine Tr.drop (A:=SLc z1 1 (x.roots.map i64)) tk ?_
    refine Tr.drop (A:=SLc z2 1 (x.wa.map i64)) tk ?_
    exact Tr.perm (Takes.perm (M:=[blk b (sl4 s1 s2 s3 s4),blk b1 (sl4 ⟨none,0,0⟩ ⟨none,0,0⟩ ⟨none,0,0⟩ ⟨none,0,0⟩),SLc s1 1 ((clrOf x.S m2 m3 l).map i64),SLc s2 1 ((putOf x.S m3 (clrOf x.S m2 m3 l)).map i64),SLc s3 1 ((pendOf x.S m2 x.wa).map i64),SLc s4 1 ((Mk.all m3).map i64)]++i.A x) tks) (hX _ _ ⟨b,z1,z2,s1,s2,s3,s4,l,m2,m3,rfl,hco,rfl⟩)
   ·refine en_nw fun b=>en_chk tks ?_
    refine en_call (Spec.own (s:=z1) (m:=1) (xs:=x.roots.map i64) fun ρ1 hle1 r1=>Spec.own (s:=z2) (m:=1) (xs:=x.wa.map i64) fun ρ2 hle2 r2=>proc ρ2 z1 z2 (r1.le hle2) r2) tks ?_
    rintro _ _ ⟨_,⟨_,⟨s1,s2,s3,s4,l,m2,m3,rfl,hco,rfl⟩,rfl⟩,rfl⟩
    try simp only[lca,lna]
    refine en_st (b:=b) (off:=0) rfl tk (by simp) rfl ?_
    refine Tr.drop (A:=SLc z1 1 (x.roots.map i64)) tk ?_
    refine Tr.drop (A:=SLc z2 1 (x.wa.map i64)) tk ?_
    exact Tr.perm (Takes.perm (M:=[blk b (sl4 s1 s2 s3 s4),blk b1 (sl4 ⟨none,0,0⟩ ⟨none,0,0⟩ ⟨none,0,0⟩ ⟨none,0,0⟩),SLc s1 1 ((clrOf x.S m2 m3 l).map i64),SLc s2 1 ((putOf x.S m3 (clrOf x.S m2 m3 l)).map i64),SLc s3 1 ((pendOf x.S m2 x.wa).map i64),SLc s4 1 ((Mk.all m3).map i64)]++i.A x) tks) (hX _ _ ⟨b,z1,z2,s1,s2,s3,s4,l,m2,m3,rfl,hco,rfl⟩)
  ·refine en_nw fun b=>en_chk tks ?_
   refine en_call (gc_in i x H.toOk all) tks ?_
   rintro _ _ ⟨z1,z2,rfl,hz1,hz2,rfl⟩
   try simp only[lca,lna]
   refine en_chk tks ?_
   refine en_call (Spec.own (s:=z1) (m:=1) (xs:=x.roots.map i64) fun ρ1 hle1 r1=>Spec.own (s:=z2) (m:=1) (xs:=x.wa.map i64) fun ρ2 hle2 r2=>proc ρ2 z1 z2 (r1.le hle2) r2) tks ?_
   rintro _ _ ⟨_,⟨_,⟨s1,s2,s3,s4,l,m2,m3,rfl,hco,rfl⟩,rfl⟩,rfl⟩
   try simp only[lca,lna]
   refine en_st (b:=b) (off:=0) rfl tk (by simp) rfl ?_
   refine Tr.drop (A:=SLc z1 1 (x.roots.map i64)) tk ?_
   refine Tr.drop (A:=SLc z2 1 (x.wa.map i64)) tk ?_
   exact Tr.perm (Takes.perm (M:=[blk b (sl4 s1 s2 s3 s4),blk b1 (sl4 ⟨none,0,0⟩ ⟨none,0,0⟩ ⟨none,0,0⟩ ⟨none,0,0⟩),SLc s1 1 ((clrOf x.S m2 m3 l).map i64),SLc s2 1 ((putOf x.S m3 (clrOf x.S m2 m3 l)).map i64),SLc s3 1 ((pendOf x.S m2 x.wa).map i64),SLc s4 1 ((Mk.all m3).map i64)]++i.A x) tks) (hX _ _ ⟨b,z1,z2,s1,s2,s3,s4,l,m2,m3,rfl,hco,rfl⟩)
end Go.Proofs.YtfepdmpplahloaaGreat
