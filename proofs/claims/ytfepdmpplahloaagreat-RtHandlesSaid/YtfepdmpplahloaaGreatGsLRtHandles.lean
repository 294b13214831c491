/- The law RtHandles. -/
import Derived.Test.YtfepdmpplahloaaGreatGsRtC
import Derived.Test.YtfepdmpplahloaaGreatGsTxRtHandles
set_option linter.unusedSimpArgs false
set_option linter.unusedVariables false
namespace Go.Proofs.YtfepdmpplahloaaGreat
open Go Go.Gl
variable{ρ0 ρ:FR}{L L':List Asn}{Post:Value→List Asn→Prop}{T:Tree}
namespace Rx
theorem give_full{x:Rt}{v:Int}(hv:v≠0)(hf:Hn.free x.hs=none):giveR x v=(0,3)∧giveS x v=x:=by
 unfold giveR giveS
 rw[if_neg hv,if_neg hv,if_pos hf,hold_none hf]
 exact⟨rfl,rfl⟩
end Rx
namespace Handles
abbrev ro1(o:Int):List Int:=(List.replicate 16 (0:Int)).set 0 o
abbrev hl(o w:Int)(n:Nat):List Hn.Slot:=[(0,o),(0,w)]++List.replicate n (0,o)
abbrev xs(o w:Int)(S:Spc)(l:List Hn.Slot)(rows:List (List Int)):Rt:=RZ [] rows 1 S l (ro1 o) [] [] 0 0
abbrev os(o w:Int)(k:Nat)(a b:Int):List Ob1:=[⟨o,⟨2,0,1+(k:Int),false⟩,(List.replicate (1+k) 0).set k w⟩,⟨w,⟨4,2,5,false⟩,[a,b,0,0,1]⟩]
theorem hl_succ(o w:Int)(n:Nat):hl o w n++[(0,o)]=hl o w (n+1):=by
 unfold hl
 rw[List.append_assoc,List.replicate_succ']
theorem hl_len(o w:Int)(n:Nat):(hl o w n).length=n+2:=by
 show(([(0,o),(0,w)]:List Hn.Slot)++List.replicate n (0,o)).length=_
 rw[List.length_append,List.length_replicate]
 show 2+n=_
 omega
theorem hl_ne{o w:Int}(ho:0<o)(hw:0<w)(n:Nat):∀e∈hl o w n,e.2≠0:=fun e he=>by
 rcases List.mem_append.mp he with h|h
 ·simp only[List.mem_cons,List.not_mem_nil,or_false]at h
  rcases h with rfl|rfl
  ·exact Int.ne_of_gt ho
  ·exact Int.ne_of_gt hw
 ·rw[List.eq_of_mem_replicate h];exact Int.ne_of_gt ho
theorem take1{o w:Int}(ho:0<o)(hw:0<w){S:Spc}{n:Nat}(hn:n<510){rows:List (List Int)}:Rx.take (xs o w S (hl o w n) rows) 0=((((n+2:Nat):Int)+512,0),xs o w S (hl o w (n+1)) rows):=by
 obtain⟨g1,g2⟩:=Rx.give_new (x:=xs o w S (hl o w n) rows) (l:=hl o w n) rfl (hl_ne ho hw n) (by rw[hl_len];omega) ho
 rw[hl_len,hl_succ]at*
 unfold Rx.take
 rw[show Rx.rootR (xs o w S (hl o w n) rows).ro 0=(o,0)from rfl,if_neg (fun g=>g rfl)]
 exact Prod.ext g1 g2
theorem enq1{S:Spc}{cs:List Cls}(hw:HWf S cs){a:Int}(hr:Qu.isR S a=true)(h1:(Ob.get S a 1).1=1):Rf.enq S [[]] a=((true,0),(Ob.put (Ob.put (Ob.put S a 0 0).2 a 2 0).2 a 1 (-1)).2,[[a]]):=by
 have hq:Rf.qn S a=1:=by
  unfold Rf.qn
  rw[get_putR hw hr (by decide) (by decide),if_neg (fun g=>absurd g.2 (by decide)),h1]
 have hr1:Qu.isR (Ob.put S a 0 0).2 a=true:=by rw[isR_putA hw];exact hr
 have hb:(Qu.has [[]] (1-1)&&Qu.isR (Ob.put S a 0 0).2 a)=true:=by rw[hr1];rfl
 have e1:Qu.pushS (Ob.put S a 0 0).2 [[]] (1-1) a=(Ob.put (Ob.put S a 0 0).2 a 2 0).2:=by
  unfold Qu.pushS
  rw[if_pos hb,if_pos (show Qu.row [[]] (1-1)=[]from rfl)]
 have e2:Qu.pushQ (Ob.put S a 0 0).2 [[]] (1-1) a=[[a]]:=by
  unfold Qu.pushQ
  rw[if_pos hb];rfl
 have e3:(Qu.pushR (Ob.put S a 0 0).2 [[]] (1-1) a)=0:=by
  unfold Qu.pushR
  rw[if_pos (show Qu.has [[]] (1-1)=true from rfl),if_pos hr1,if_pos (show Qu.row [[]] (1-1)=[]from rfl)]
 unfold Rf.enq
 rw[if_pos hr,hq,if_neg (by decide),e3,if_neg (fun g=>g rfl),e1,e2]
structure All(x:Rt)(o w k:Int):Prop where
 f0:Hn.free x.hs=none
 f1:Rx.take x 0=((0,3),x)
 f2:Rx.get x 512 k=((0,3),x)
 f3:Rx.poll x 0=((0,3),x)
 f4:∀y,Rx.listR x 3 1 y→y=((0,3),x)
 f5:∀y,Rx.referR x 1 512 (-1) y→y=((0,3),x)
 f6:Rx.count x 4=((0,0),x)
 f7:∃x8 x9:Rt,Rx.drop x 512=((0,0),x8)∧Rx.poll x8 0=((1024,0),x9)∧Rx.count x9 3=((2,0),x9)
theorem held0(o w:Int)(ho:0<o){n:Nat}(hn:n≤510):Hn.held (Hn.Hs (hl o w n)) 512=(o,0):=Hn.hs_held (l:=hl o w n) (j:=0) (t:=0) (a:=o) (x:=512) rfl (by omega) (by decide) (by rw[hl_len];omega) (by decide)
theorem all{o w:Int}(ho:0<o)(hw:0<w){S:Spc}{k:Nat}(B:Bo S [] (os o w k 0 (-1))):All (xs o w S (hl o w 510) [[w]]) o w k:=by
 have hf:Hn.free (Hn.Hs (hl o w 510))=none:=Hn.hs_full (hl_ne ho hw 510) (hl_len o w 510)
 have hh:=held0 o w ho (n:=510) (by decide)
 have hlen:(hl o w 510).length≤512:=by rw[hl_len];decide
 generalize hl0:hl o w 510=l at*
 have m1:(⟨o,⟨2,0,1+(k:Int),false⟩,(List.replicate (1+k) 0).set k w⟩:Ob1)∈os o w k 0 (-1):=by simp
 refine⟨hf,?_,?_,?_,fun y hy=> ?_,fun y hy=> ?_,?_,?_⟩
 ·unfold Rx.take
  rw[show Rx.rootR (xs o w S l [[w]]).ro 0=(o,0)from rfl,if_neg (fun g=>g rfl)]
  obtain⟨g1,g2⟩:=Rx.give_full (x:=xs o w S l [[w]]) (v:=o) (by omega) hf
  exact Prod.ext g1 g2
 ·rw[Rx.get_adr (x:=xs o w S l [[w]]) B m1 hh (show(2:Int)≠4 by decide) (j:=k) (show(k:Int)<1+(k:Int) by omega) (by
   show(k:Int)∈Sp.upto (1+(k:Int)).toNat
   unfold Sp.upto
   exact List.mem_map.mpr ⟨k,List.mem_range.mpr (by omega),rfl⟩)]
  have:((List.replicate (1+k) (0:Int)).set k w).getD k 0=w:=by rw[List.getD_eq_getElem?_getD,List.getElem?_set_self (by rw[List.length_replicate];omega)];rfl
  rw[this]
  obtain⟨g1,g2⟩:=Rx.give_full (x:=xs o w S l [[w]]) (v:=w) (by omega) hf
  exact Prod.ext g1 g2
 ·unfold Rx.poll
  rw[if_neg (show¬Qu.has (xs o w S l [[w]]).rows 0=false from fun g=>by cases g),if_neg (show¬Qu.row (xs o w S l [[w]]).rows 0=[]from fun g=>by cases g),if_pos (show Hn.free (xs o w S l [[w]]).hs=none from hf)]
 ·unfold Rx.listR at hy
  rw[if_neg (by decide)]at hy
  exact Rx.made_full hy hf
 ·unfold Rx.referR at hy
  have e1:Rx.hld (xs o w S l [[w]]) 512 false=(o,0):=by
   unfold Rx.hld
   rw[if_neg (fun g=>by cases g.1)];exact hh
  rw[e1,if_neg (fun g=>g rfl),if_neg (show¬Rx.refersE (xs o w S l [[w]]) 1 (-1)≠0 from fun g=>g rfl)]at hy
  exact Rx.made_full hy hf
 ·unfold Rx.count
  rw[if_neg (by decide)];rfl
 ·obtain⟨h1,h2⟩:=Hn.hs_drop (l:=l) (j:=0) (t:=0) (a:=o) (x:=512) (by rw[←hl0];rfl) (by omega) (by decide) hlen (by decide)
  have e8:Rx.drop (xs o w S l [[w]]) 512=((0,0),xs o w S (l.set 0 (0+1,0)) [[w]]):=by
   unfold Rx.drop
   show((0,Hn.dropE (Hn.Hs l) 512),({xs o w S l [[w]]with hs:=Hn.dropS (Hn.Hs l) 512}:Rt))=_
   rw[h1,h2]
  have hl8:(l.set 0 (0+1,0)).length≤512:=by rw[List.length_set];exact hlen
  have h80:(l.set 0 ((0:Int)+1,(0:Int)))[0]? =some (1,0):=by rw[←hl0];rfl
  generalize l.set 0 ((0:Int)+1,(0:Int))=l8 at*
  have hf8:Hn.free (xs o w S l8 [[w]]).hs≠none:=by
   show Hn.free (Hn.Hs l8)≠none
   rw[Hn.hs_free' (l:=l8) (j:=0) (t:=1) h80 (fun i h=>by omega) hl8];simp
  have e9:=Rx.poll_is (x:=xs o w S l8 [[w]]) (a:=0) (f:=w) (t:=[]) rfl rfl hf8
  obtain⟨g1,g2⟩:=Rx.give_at (x:=xs o w (Ob.put S w 2 0).2 l8 [[]]) (l:=l8) (j:=0) (t:=1) rfl h80 (fun i h=>by omega) hl8 hw
  rw[show(((0:Nat):Int)+512*(1+1))=1024 by decide]at g1
  refine⟨_,xs o w (Ob.put S w 2 0).2 (l8.set 0 (1,w)) [[]],e8,e9.trans (Prod.ext g1 g2),?_⟩
  have hc:(Sp.each (Ob.put S w 2 0).2).length=2:=by
   refine(B.put w 2 0).each.length_eq.trans ?_
   rw[List.length_map]
   unfold Om.upd
   rw[List.length_map];rfl
  unfold Rx.count
  rw[if_neg (by decide)]
  show(((((Sp.each (Ob.put S w 2 0).2).length:Nat):Int),(0:Int)),_)=_
  rw[hc];rfl
end Handles
theorem law_rthandles(p:Int)(hp:0≤p∧p<256):Gl.Spec ρ Tryz.prog 4 [.int .u8 p] [] RB fun r M=>r=true∧M=[]:=by
 refine Gl.Spec.of (fun Q w h=>F.gloaminglaw21.RtHandles.calls p h) fun R=> ?_
 unfold F.gloaminglaw21.RtHandles
 rw[wrap64 (n:=p) (by omega) (by omega),Int.tmod_eq_emod_of_nonneg hp.1,wrap64 (n:=1+p%50) (by omega) (by omega)]
 obtain⟨k,ek,hk⟩:∃k:Nat,p%50=(k:Int)∧k<50:=⟨(p%50).toNat,by omega,by omega⟩
 rw[ek]
 refine en_call law_fresh .nil ?_
 rintro _ _ ⟨i,q,rfl,rfl⟩
 rw[rz_new,zcAns]
 try simp only[lca,lna]
 refine en_brf rfl ?_
 have e1:Rx.open' (RZ [] [] 0 (Sp.newSpc 60) [] (List.replicate 16 0) [] [] 0 0)=((0,0),RZ [] [[]] 0 (Sp.newSpc 60) [] (List.replicate 16 0) [] [] 0 0):=rfl
 refine en_dos (e1▸op_open i q _ rz_inv0 0 0 0 (by decide)) tks ?_
 have I0:=Rx.open_inv rz_inv0
 rw[e1]at I0
 dsimp only at I0⊢
 refine en_nw fun b3=> ?_
 refine en_st (b:=b3) (off:=0) rfl tk (by simp) rfl ?_
 refine en_need (by decide) ?_
 refine en_call (law_do (z_list i q new_bx I0 (by decide) (by simp) (by decide) (by decide) (.inl ⟨rfl,rfl⟩) (1+(k:Int)) 0 0 (by omega) (by omega) (hd:=512) rfl)) tks ?_
 rintro _ _ ⟨o,S1,rfl,ho,x1,I1,rfl⟩
 try simp only[lca,lna]
 rw[show(1+(k:Int)).toNat=1+k by omega]at x1
 change Bx S1 [] 60 [⟨o,⟨2,0,1+(k:Int),false⟩,List.replicate (1+k) 0⟩]at x1
 refine en_nw fun b5=> ?_
 refine en_st (b:=b5) (off:=0) rfl tk (by simp) rfl ?_
 refine en_ld (k:= .int .i64) (b:=b5) (off:=1) (x:=512) (by rw[fa_mk]) tk rfl ?_
 refine en_ld (k:= .int .i64) (b:=b3) (off:=1) (x:=0) (by rw[fa_mk]) tk rfl ?_
 have h2:∀e∈([(0,o)]:List Hn.Slot),e.2≠0:=by simp;omega
 refine en_call (law_do (z_refer i q x1 I1 (by decide) h2 (show 1<512 by decide) (show 1+1<60 by decide) (w:=2) (h:=512) (o:=o) (qu:=0) (by decide) (by decide) (by decide) (Hn.hs_held (l:=[(0,o)]) (j:=0) (t:=0) (a:=o) (x:=512) rfl (by omega) (by decide) (show 1≤512 by decide) (by decide)) ⟨_,List.mem_singleton.mpr rfl,rfl⟩ (hd:=513) rfl)) tks ?_
 rintro _ _ ⟨w,S2,rfl,hw,x2,I2,rfl⟩
 try simp only[lca,lna]
 change Bx S2 [] 60 [⟨o,⟨2,0,1+(k:Int),false⟩,List.replicate (1+k) 0⟩,⟨w,⟨4,2,5,false⟩,[o,1,0,0,1]⟩]at x2
 refine en_nw fun b9=> ?_
 refine en_st (b:=b9) (off:=0) rfl tk (by simp) rfl ?_
 refine en_ld (k:= .int .i64) (b:=b5) (off:=1) (x:=512) (by rw[fa_mk]) tk rfl ?_
 refine en_ld (k:= .int .i64) (b:=b9) (off:=1) (x:=513) (by rw[fa_mk]) tk rfl ?_
 have hO:=Hn.hs_held (l:=[(0,o),(0,w)]) (j:=0) (t:=0) (a:=o) (x:=512) rfl (by omega) (by decide) (show 2≤512 by decide) (by decide)
 have hW:=Hn.hs_held (l:=[(0,o),(0,w)]) (j:=1) (t:=0) (a:=w) (x:=513) rfl (by omega) (by decide) (show 2≤512 by decide) (by decide)
 have e3:=Rx.set_adr (x:=RZ [] [[]] 1 S2 [(0,o),(0,w)] (List.replicate 16 0) [] [] 0 0) (o:=⟨o,⟨2,0,1+(k:Int),false⟩,List.replicate (1+k) 0⟩) x2.bo (by simp) hO (show(2:Int)≠4 by decide) (j:=k) (show(k:Int)<1+(k:Int) by omega) (by
   show(k:Int)∈Sp.upto (1+(k:Int)).toNat
   unfold Sp.upto
   exact List.mem_map.mpr ⟨k,List.mem_range.mpr (by omega),rfl⟩) (c:=513) (a:=w) (.inr ⟨by decide,hW⟩)
 refine en_dos (e3▸op_set i q _ I2 512 (k:Int) 513 (by decide)) tks ?_
 have I3:=Rx.set_inv I2 512 (k:Int) 513
 change(Rx.set (RZ [] [[]] 1 S2 [(0,o),(0,w)] (List.replicate 16 0) [] [] 0 0) 512 (k:Int) 513).2.Inv _ at I3
 rw[e3]at I3
 have x3:=(x2.put (i:=0) rfl (k:=k) (show(k:Int)<1+(k:Int) by omega) w).2
 dsimp only at I3 x3⊢
 generalize(Ob.put S2 o (k:Int) w).2=S3 at*
 change Bx S3 [] 60 (Handles.os o w k o 1)at x3
 refine en_ld (k:= .int .i64) (b:=b5) (off:=1) (x:=512) (by rw[fa_mk]) tk rfl ?_
 have e4:=z_root (cs:=[]) (rows:=[[]]) (ser:=1) (S:=S3) (l:=[(0,o),(0,w)]) (ro:=List.replicate 16 0) (wa:=[]) (pe:=[]) (ck:=0) (rn:=0) (k:=0) (h:=512) (a:=o) (by decide) (by omega) (.inr ⟨by decide,hO⟩)
 refine en_dos (e4▸op_root i q _ I3 0 512 0 (by decide)) tks ?_
 have I4:=Rx.root_inv I3 0 512
 rw[e4]at I4
 dsimp only at I4⊢
 replace I4:(Handles.xs o w S3 (Handles.hl o w 0) [[]]).Inv (0+10+10):=I4
 refine en_ld (k:= .int .i64) (b:=b9) (off:=1) (x:=513) (by rw[fa_mk]) tk rfl ?_
 have mw:(⟨w,⟨4,2,5,false⟩,[o,1,0,0,1]⟩:Ob1)∈Handles.os o w k o 1:=by simp
 have hr:Qu.isR S3 w=true:=by unfold Qu.isR;rw[x3.head _ mw];rfl
 have g1:Ob.get S3 w 1=(1,0):=x3.get _ mw 1 (show((1:Nat):Int)<5 by decide)
 have nd:=x3.nodup
 simp only[List.map_cons,List.map_nil,List.nodup_cons,List.mem_cons,List.not_mem_nil,or_false,not_false_eq_true,List.nodup_nil,and_true]at nd
 have e5:Rx.enqueue (Handles.xs o w S3 (Handles.hl o w 0) [[]]) 513=((1,0),Handles.xs o w (Ob.put (Ob.put (Ob.put S3 w 0 0).2 w 2 0).2 w 1 (-1)).2 (Handles.hl o w 0) [[w]]):=by
  unfold Rx.enqueue
  rw[Rx.by_is hW]
  show((if(Rf.enq S3 [[]] w).1.2≠0∨(Rf.enq S3 [[]] w).1.1=false then(0,(Rf.enq S3 [[]] w).1.2)else(1,0):Int×Int),({Handles.xs o w S3 (Handles.hl o w 0) [[]]with S:=(Rf.enq S3 [[]] w).2.1,rows:=(Rf.enq S3 [[]] w).2.2}:Rt))=_
  rw[Handles.enq1 x3.hw hr (by rw[g1])]
  rfl
 obtain⟨x0,hx0⟩:∃x0,Handles.xs o w (Ob.put (Ob.put (Ob.put S3 w 0 0).2 w 2 0).2 w 1 (-1)).2 (Handles.hl o w 0) [[w]]=x0:=⟨_,rfl⟩
 rw[hx0]at e5
 refine en_dos (e5▸op_enqueue i q _ I4 513 0 0 (by decide)) tks ?_
 have I5:=Rx.enqueue_inv I4 513
 rw[e5]at I5
 have x5:=((x3.bo.put w 0 0).put w 2 0).put w 1 (-1)
 rw[show Om.upd (Om.upd (Om.upd (Handles.os o w k o 1) w 0 0) w 2 0) w 1 (-1)=Handles.os o w k 0 (-1) by unfold Om.upd;simp[Om.up,nd]]at x5
 change Bo (Ob.put (Ob.put (Ob.put S3 w 0 0).2 w 2 0).2 w 1 (-1)).2 [] _ at x5
 dsimp only at I5⊢
 generalize(Ob.put (Ob.put (Ob.put S3 w 0 0).2 w 2 0).2 w 1 (-1)).2=S5 at*
 try simp only[lca,lna]
 refine en_nw fun b17=> ?_
 refine en_st (b:=b17) (off:=0) rfl tk (by simp) rfl ?_
 refine Tr.perm (Takes.perm (M:=blk b3 [i64 0,i64 0]::blk b5 [i64 0,i64 512]::blk b9 [i64 0,i64 513]::blk b17 [i64 0,i64 1]::i.Q q x0) tks) ?_
 refine en_lp (I:=fun m u M=>∃(j:Nat) (x:Rt),x=Handles.xs o w S5 (Handles.hl o w j) [[w]]∧j≤510∧m=510-j∧u=((j:Int),())∧x.Inv (0+10+10)∧M=blk b3 [i64 0,i64 0]::blk b5 [i64 0,i64 512]::blk b9 [i64 0,i64 513]::blk b17 [i64 0,i64 1]::(i.Q q x++R)) 510 ?_ ?_
 ·exact⟨0,x0,hx0.symm,by decide,rfl,rfl,I5,rfl⟩
 rintro m _ _ ⟨j,x,hx,hj,rfl,rfl,I,rfl⟩ X hX
 dsimp only
 refine en_br (fun hlt=> ?_) (fun hlt=> ?_)
 ·have hlt:(j:Int)<510:=of_decide_eq_true hlt
  have et:Rx.take x 0=((((j+2:Nat):Int)+512,0),Handles.xs o w S5 (Handles.hl o w (j+1)) [[w]]):=by rw[hx];exact Handles.take1 ho hw (by omega)
  have I6:=Rx.take_inv I 0
  rw[et]at I6
  refine en_dos (et▸op_take i q x I 0 0 0 (by decide)) tks ?_
  dsimp only at I6⊢
  rw[wrap64 (n:=(j:Int)+1) (by omega) (by omega)]
  generalize hx':Handles.xs o w S5 (Handles.hl o w (j+1)) [[w]]=x' at*
  refine Tr.perm (Takes.perm (M:=blk b3 [i64 0,i64 0]::blk b5 [i64 0,i64 512]::blk b9 [i64 0,i64 513]::blk b17 [i64 0,i64 1]::i.Q q x') tks) ?_
  exact hX (510-(j+1)) _ _ (by omega) ⟨j+1,x',hx'.symm,by omega,rfl,rfl,I6,rfl⟩
 have hlt:¬(j:Int)<510:=of_decide_eq_false hlt
 obtain rfl:j=510:=by omega
 have A:=Handles.all ho hw x5
 rw[←hx]at A
 clear hx hX X
 refine en_drw (en_held [blk b3 [i64 0,i64 0],blk b5 [i64 0,i64 512]] tks ?_)
 refine en_ldS (k:= .int .i64) (b:=b5) (off:=1) (x:=512) (by rw[fa_mk]) tk rfl ?_
 refine en_ldS (k:= .int .i64) (b:=b3) (off:=1) (x:=0) (by rw[fa_mk]) tk rfl ?_
 refine en_ldS (k:= .int .i64) (b:=b5) (off:=1) (x:=512) (by rw[fa_mk]) tk rfl ?_
 refine en_dos (A.f1▸op_take i q x I 0 0 0 (by decide)) tks (en_chk tks ?_)
 refine en_dos (A.f2▸op_get i q x I 512 (k:Int) 0 (by decide)) tks (en_chk tks ?_)
 refine en_dos (A.f3▸op_poll i q x I 0 0 0 (by decide)) tks (en_chk tks ?_)
 refine en_call (law_do (op_list i q x I 1 0 0 (by decide) (.inr ⟨rfl,rfl⟩))) tks ?_
 rintro _ _ ⟨y,⟨hy,_⟩,rfl,rfl⟩
 obtain rfl:=A.f4 y hy
 refine en_chk tks ?_
 refine en_call (law_do (op_refer i q x I 1 512 (-1) (by decide))) tks ?_
 rintro _ _ ⟨y,⟨hy,_⟩,rfl,rfl⟩
 obtain rfl:=A.f5 y hy
 dsimp only
 try simp only[lca,lna]
 refine en_nw fun b29=> ?_
 refine Tr.perm (Takes.perm (M:=blk b29 [i64 3,i64 0,i64 3,i64 0,i64 3,i64 0,i64 3,i64 0,i64 3,i64 0]::blk b3 [i64 0,i64 0]::blk b5 [i64 0,i64 512]::blk b9 [i64 0,i64 513]::blk b17 [i64 0,i64 1]::i.Q q x) tks) ?_
 refine en_lp (I:=fun m u M=>∃j:Nat,j≤5∧m=5-j∧u=((j:Int),())∧M=blk b29 [i64 3,i64 0,i64 3,i64 0,i64 3,i64 0,i64 3,i64 0,i64 3,i64 0]::blk b3 [i64 0,i64 0]::blk b5 [i64 0,i64 512]::blk b9 [i64 0,i64 513]::blk b17 [i64 0,i64 1]::(i.Q q x++R)) 5 ?_ ?_
 ·exact⟨0,by decide,rfl,rfl,rfl⟩
 rintro m _ _ ⟨j,hj,rfl,rfl,rfl⟩ X hX
 dsimp only
 refine en_br (fun hlt=> ?_) (fun hlt=> ?_)
 ·have hlt:(j:Int)<5:=of_decide_eq_true hlt
  refine en_ix (by omega) (by omega) ?_
  rw[show(j:Int).toNat=j from rfl,wrap64 (n:=(j:Int)+1) (by omega) (by omega)]
  have hd:∃rest,([i64 3,i64 0,i64 3,i64 0,i64 3,i64 0,i64 3,i64 0,i64 3,i64 0]:List Value).drop (j*2)=vals [.int .i64,.int .i64] ((3:Int),(0:Int),())++rest:=by
   have:j=0∨j=1∨j=2∨j=3∨j=4:=by omega
   rcases this with rfl|rfl|rfl|rfl|rfl<;>exact⟨_,rfl⟩
  obtain⟨rest,hd⟩:=hd
  refine en_ldg (b:=b29) (off:=j*2) (x:=((3:Int),(0:Int),())) rest (by rw[fa_mk,Nat.zero_add]) tk hd ?_
  refine en_call (law_fails 3 0 3) .nil ?_
  rintro _ _ ⟨rfl,rfl⟩
  refine en_brf rfl ?_
  exact hX (5-(j+1)) _ _ (by omega) ⟨j+1,by omega,rfl,rfl,rfl⟩
 have hlt:¬(j:Int)<5:=of_decide_eq_false hlt
 obtain rfl:j=5:=by omega
 clear hX X
 refine en_dos (A.f6▸op_count i q x I 4 0 0 (by decide)) tks ?_
 try simp only[lca,lna]
 refine en_nw fun b33=> ?_
 refine en_st (b:=b33) (off:=0) rfl tk (by simp) rfl ?_
 refine en_ld (k:= .int .i64) (b:=b5) (off:=1) (x:=512) (by rw[fa_mk]) tk rfl ?_
 obtain⟨x8,x9,e8,e9,e10⟩:=A.f7
 refine en_dos (e8▸op_drop i q x I 512 0 0 (by decide)) tks ?_
 have I8:=Rx.drop_inv I (by decide) 512
 rw[e8]at I8
 dsimp only at I8⊢
 refine en_ld (k:= .int .i64) (b:=b3) (off:=1) (x:=0) (by rw[fa_mk]) tk rfl ?_
 refine en_dos (e9▸op_poll i q x8 I8 0 0 0 (by decide)) tks ?_
 have I9:=Rx.poll_inv I8 0
 rw[e9]at I9
 dsimp only at I9⊢
 try simp only[lca,lna]
 refine en_nw fun b38=> ?_
 refine en_st (b:=b38) (off:=0) rfl tk (by simp) rfl ?_
 refine en_drw (en_held [blk b3 [i64 0,i64 0],blk b5 [i64 0,i64 512],blk b9 [i64 0,i64 513],blk b17 [i64 0,i64 1],blk b33 [i64 0,i64 0],blk b38 [i64 0,i64 1024]] tks ?_)
 refine en_ldS (k:= .int .i64) (b:=b3) (off:=0) (x:=0) (by rw[fa_mk]) tk rfl ?_
 refine en_ldS (k:= .int .i64) (b:=b5) (off:=0) (x:=0) (by rw[fa_mk]) tk rfl ?_
 refine en_ldS (k:= .int .i64) (b:=b9) (off:=0) (x:=0) (by rw[fa_mk]) tk rfl ?_
 refine en_errS tks (en_errS tks (en_errS tks ?_))
 refine en_brt (by kernel_rfl) ?_
 refine en_ldgS (b:=b17) (off:=0) (x:=((0:Int),(1:Int),())) [] rfl tk rfl ?_
 refine en_is (en_chk tks (en_cut _ tks (fun w h=>h) (en_brt rfl ?_)))
 refine en_ldgS (b:=b33) (off:=0) (x:=((0:Int),(0:Int),())) [] rfl tk rfl ?_
 refine en_is (en_chk tks (en_cut _ tks (fun w h=>h) (en_brt rfl ?_)))
 refine en_ldS (k:= .int .i64) (b:=b38) (off:=0) (x:=0) (by rw[fa_mk]) tk rfl ?_
 refine en_errS tks (en_brt rfl ?_)
 refine en_ldS (k:= .int .i64) (b:=b38) (off:=1) (x:=1024) (by rw[fa_mk]) tk rfl ?_
 refine en_brt rfl ?_
 refine en_isP (e10▸op_count i q x9 I9 3 0 0 (by decide)) tks ?_
 refine en_call (law_awake21) tks ?_
 rintro x' M ⟨rfl,rfl⟩
 try simp only[lca,lna]
 exact en_rets (x:=true) rfl ⟨rfl,rfl⟩ tks ens
end Go.Proofs.YtfepdmpplahloaaGreat
