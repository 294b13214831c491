/- What laws of the runtime go by, where there are references. -/
import Derived.Test.YtfepdmpplahloaaGreatGsFl
set_option linter.unusedSimpArgs false
set_option linter.unusedVariables false
namespace Go.Proofs.YtfepdmpplahloaaGreat
open Go Go.Gl
variable{ρ0 ρ:FR}{L L':List Asn}{Post:Value→List Asn→Prop}{T:Tree}
theorem en_errS{e:Int}{M R:List Asn}{K:Int→(World→Prop)→Tree}(t:Takes L M R)(h:Tr ρ0 ρ L (K e (Sat ρ M)) Post):
  Tr ρ0 ρ L (call Tryz.prog 10 [.int .i64 e] (.one (.l (.int .i64))) fun r=>chk (Sat ρ M) (narrow (Sat ρ M) (K r))) Post:=by
 refine en_call (law_err e) .nil ?_
 rintro _ _ ⟨rfl,rfl⟩
 exact en_chk t (en_cut M t (fun w h=>h) h)
theorem en_err{e:Int}{K:Int→Tree}(h:Tr ρ0 ρ L (K e) Post):Tr ρ0 ρ L (call Tryz.prog 10 [.int .i64 e] (.one (.l (.int .i64))) K) Post:=by
 refine en_call (law_err e) .nil ?_
 rintro _ _ ⟨rfl,rfl⟩
 exact h
namespace Rx
variable{x:Rt}{h o:Int}{hd:Hd}
theorem referent_zero(hh:Hn.held x.hs h=(o,0))(h1:Ob.head x.S o=some hd)(hk:hd.k=4)(hg:Ob.get x.S o 0=(0,0)):referent x h=((0,0),x):=by
 unfold referent
 rw[by_is hh,h1]
 dsimp only
 rw[if_neg (fun g=>g hk),hg]
 split
 ·rfl
 ·rw[if_pos (.inr rfl)]
theorem str_of{S:Spc}(h1:Ob.head S o=some hd)(hk:hd.k=4):Rf.str S o=(hd.c,0):=by
 unfold Rf.str
 rw[h1]
 dsimp only
 rw[if_pos hk]
theorem referent_is{v:Int}(hh:Hn.held x.hs h=(o,0))(h1:Ob.head x.S o=some hd)(hk:hd.k=4)(hc:hd.c≠3)(hg:Ob.get x.S o 0=(v,0))(hv:v≠0)(hf:Hn.free x.hs≠none):
  referent x h=(giveR {x with S:=if hd.c=1 then(Ob.put x.S o 3 x.ck).2 else x.S} v,giveS {x with S:=if hd.c=1 then(Ob.put x.S o 3 x.ck).2 else x.S} v):=by
 have e:Rf.referent x.S o x.ck=((v,0),if hd.c=1 then(Ob.put x.S o 3 x.ck).2 else x.S):=by
  unfold Rf.referent
  rw[str_of h1 hk]
  dsimp only
  rw[if_neg (fun g=>g.elim (fun g=>g rfl) hc),hg]
  dsimp only
  by_cases g:hd.c=1
  ·rw[if_pos g,if_pos ⟨g,hv⟩]
  ·rw[if_neg g,if_neg (fun q=>g q.1)]
 unfold referent
 rw[by_is hh,h1]
 dsimp only
 rw[if_neg (fun g=>g hk),if_neg hc,hg,if_neg (fun g=>g.elim (fun g=>g rfl) hv),if_neg hf,e,if_neg (fun g=>g rfl)]
end Rx
theorem bo_invd{x:Rt}{os:List Ob1}(H:Bo x.S x.cs os)(hc:x.cs=[])(h1:∀o∈os,o.h.k≠1)(hq:∀o∈os,o.h.k=4→o.ws.getD 1 0≤x.rows.length):x.InvD:=by
 refine⟨fun a ha=> ?_,fun a hd hh hk=> ?_,fun c h=>by rw[hc]at h;cases h⟩
 ·obtain⟨o,ho,rfl,hk⟩:=H.isR.mp ha
  have:=H.get o ho 1 (by rw[isR_n H.hw (H.head o ho) hk];decide)
  change Ob.get x.S o.a 1=_ at this
  rw[this]
  exact hq o ho hk
 ·obtain⟨o,ho,rfl⟩:=H.obj.mp (by unfold Mk.obj;rw[hh];rfl)
  rw[H.head o ho]at hh
  injection hh with hh
  rw[←hh]at hk
  exact absurd hk (h1 o ho)
theorem sum_perm'{l l':List Int}(h:l.Perm l'):l.sum=l'.sum:=by
 induction h with
 |nil=>rfl
 |cons x _ ih=>simp[ih]
 |swap x y l=>simp;omega
 |trans _ _ ih1 ih2=>exact ih1.trans ih2
theorem used_of{S:Spc}{cs:List Cls}{os:List Ob1}{rows:List (List Int)}{ck:Int}(H:Bo S cs os)(A:Ah S rows ck):((Sp.each S).map (Sp.wordsAt S)).sum=(os.map fun o=>Sp.blk (o.h.n+1)).sum:=by
 rw[sum_perm' (H.each.map _),List.map_map]
 congr 1
 exact List.map_congr_left fun o ho=>A.bw _ _ (H.head o ho)
theorem rz_au0:(RZ [] [] 0 (Sp.newSpc 60) [] (List.replicate 16 0) [] [] 0 0).Au:=rz_new▸Rt.new_au (pg:=60) (rate:=1) (stack:=3) (by decide)
section
variable(i:Pl)(q:Nat){N:Int}{cs:List Cls}{rows:List (List Int)}{ser:Int}{S:Spc}{l:List Hn.Slot}{ro wa pe:List Int}{ck rn:Int}{os:List Ob1}
theorem z_listA(bx:Bx S cs 60 os)(I:(RZ cs rows ser S l ro wa pe ck rn).Inv N)(A:(RZ cs rows ser S l ro wa pe ck rn).Au)(hN:N+10<2^49)(hl:∀e∈l,e.2≠0)(hl5:l.length<512)(hn:os.length+1<60){k kind:Int}(hk:(k=3∧kind=2)∨(k=4∧kind=3))(n b c:Int)(n0:0≤n)(n1:n≤63){hd:Int}(hhd:hd=((l.length:Nat):Int)+512):
  Gl.Spec ρ Tryz.prog 16 [.pointer (some ⟨q,0,none⟩),opV k n b c] (i.Q q (RZ cs rows ser S l ro wa pe ck rn)) G2
  fun r M=>∃(a:Int) (S':Spc),r=((0:Int),hd,())∧0<a∧Bx S' cs 60 (os++[⟨a,⟨kind,0,n,false⟩,List.replicate n.toNat 0⟩])∧(RZ cs rows ser S' (l++[(0,a)]) ro wa pe ck rn).Inv (N+10)∧(RZ cs rows ser S' (l++[(0,a)]) ro wa pe ck rn).Au∧M=i.Q q (RZ cs rows ser S' (l++[(0,a)]) ro wa pe ck rn):=by
 refine Spec.post (op_list i q _ I n b c hN hk) fun r M hh=> ?_
 obtain⟨y,⟨hy,Iy⟩,rfl,rfl⟩:=hh
 have A':=Rx.au_list (by rcases hk with ⟨_,rfl⟩|⟨_,rfl⟩<;>decide) A I hy
 unfold Rx.listR at hy
 rw[if_neg (by omega)]at hy
 have hm:Ob.may cs ⟨kind,0,n,false⟩=0:=by
  rcases hk with ⟨_,rfl⟩|⟨_,rfl⟩
  ·exact may_box cs n0 (by omega)
  ·exact may_data cs n0 (by omega)
 obtain⟨a,S',rfl,ha,b1⟩:=z_make bx I hl hl5 hn hm n0 n1 hy
 exact⟨a,S',by rw[hhd];rfl,ha,b1,Iy,A',rfl⟩
theorem z_referA{S:Spc}{os:List Ob1}(bx:Bx S [] 60 os)(I:(RZ [] rows ser S l ro wa pe ck rn).Inv N)(A:(RZ [] rows ser S l ro wa pe ck rn).Au)(hN:N+10<2^49)(hl:∀e∈l,e.2≠0)(hl5:l.length<512)(hn:os.length+1<60){w h o qu:Int}(hw:1≤w∧w≤3)(hq: -1≤qu∧qu<rows.length)(hq3:w=3→0≤qu)(hh:Hn.held (Hn.Hs l) h=(o,0))(ho:∃x∈os,x.a=o){hd:Int}(hhd:hd=((l.length:Nat):Int)+512):
  Gl.Spec ρ Tryz.prog 16 [.pointer (some ⟨q,0,none⟩),opV 11 w h qu] (i.Q q (RZ [] rows ser S l ro wa pe ck rn)) G2
  fun r M=>∃(a:Int) (S':Spc),r=((0:Int),hd,())∧0<a∧Bx S' [] 60 (os++[⟨a,⟨4,w,5,false⟩,[o,qu+1,0,ck,ser+1]⟩])∧(RZ [] rows (ser+1) S' (l++[(0,a)]) ro wa pe ck rn).Inv (N+10)∧(RZ [] rows (ser+1) S' (l++[(0,a)]) ro wa pe ck rn).Au∧M=i.Q q (RZ [] rows (ser+1) S' (l++[(0,a)]) ro wa pe ck rn):=by
 refine Spec.post (op_refer i q _ I w h qu hN) fun r M hx=> ?_
 obtain⟨y,⟨hy,Iy⟩,rfl,rfl⟩:=hx
 have e1:Rx.hld (RZ [] rows ser S l ro wa pe ck rn) h false=(o,0):=by
  unfold Rx.hld
  rw[if_neg (show¬(false=true∧h=0)from fun g=>by cases g.1)];exact hh
 have e2:Rx.refersE (RZ [] rows ser S l ro wa pe ck rn) w qu=0:=by
  unfold Rx.refersE
  rw[if_neg (by omega),if_neg (by omega),if_neg (by omega),if_neg (show¬qu≥((rows.length:Nat):Int) by omega),if_neg (fun g=>by have:=hq3 g.1;omega)]
 unfold Rx.referR at hy
 rw[e1,e2,if_neg (fun g=>g rfl),if_neg (fun g=>g rfl)]at hy
 have A':=Rx.au_made (Rx.keeps_rmk w o qu) (Rx.ka_rmk w o qu) A I hy
 obtain⟨a,S',er,ha,b1⟩:=bx.refer (rows:=rows) (n:=ser) (c:=w) (o:=o) (q:=qu) (t:=ck) hn hw.1 hw.2 hq.1 hq.2 hq3 ho
 have hf:Hn.free (Hn.Hs l)≠none:=by rw[Hn.hs_free hl hl5];simp
 have emk:Rx.rmk w o qu (RZ [] rows ser S l ro wa pe ck rn)=((a,0),RZ [] rows (ser+1) S' l ro wa pe ck rn):=by
  unfold Rx.rmk
  rw[show Rf.refer (RZ [] rows ser S l ro wa pe ck rn).S (RZ [] rows ser S l ro wa pe ck rn).cs (RZ [] rows ser S l ro wa pe ck rn).rows (RZ [] rows ser S l ro wa pe ck rn).ser w o qu (RZ [] rows ser S l ro wa pe ck rn).ck=(a,0,S',ser+1)from er]
 have:=Rx.made_ok hy hf (by rw[emk])
 rw[emk]at this
 obtain⟨g1,g2⟩:=Rx.give_new (x:=RZ [] rows (ser+1) S' l ro wa pe ck rn) (l:=l) rfl hl hl5 (a:=a) ha
 rw[g1,g2]at this
 subst this
 exact⟨a,S',by rw[hhd];rfl,ha,b1,Iy,A',rfl⟩
end
end Go.Proofs.YtfepdmpplahloaaGreat
