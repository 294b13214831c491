/- Arena Bits Low Mid. -/
import Derived.Test.YtfepdmpplahloaaGreatGsT
import Derived.Test.YtfepdmpplahloaaGreatGsOp
set_option linter.unusedSimpArgs false
set_option linter.unusedVariables false
namespace Go.Proofs.YtfepdmpplahloaaGreat
open Go Go.Gl
abbrev i64(n:Int):Value:= .int .i64 n
abbrev P2:RK:= .many [.l (.int .i64),.l (.int .i64)]
abbrev R1:RK:= .one (.l (.int .i64))
abbrev RB:RK:= .one (.l .bool)
def ArenaA(p:Nat)(ws:List Int):Asn:=fun h=>∃s:Slc,s.n=ws.length∧star [blk p [.slice s.a s.n s.c],SLc s 1 (ws.map i64)] h
variable{ρ0 ρ:FR}{L L':List Asn}{Post:Value→List Asn→Prop}{T:Tree}
theorem ArenaA.op{p:Nat}{ws:List Int}(t:Take L (ArenaA p ws) L')(h:∀s:Slc,s.n=ws.length→Tr ρ0 ρ (blk p [.slice s.a s.n s.c]::SLc s 1 (ws.map i64)::L') T Post):Tr ρ0 ρ L T Post:=
 Tr.openL (M:=fun s:Slc=>[blk p [.slice s.a s.n s.c],SLc s 1 (ws.map i64)]) t (fun _ h=>h) h
theorem ArenaA.cl{p:Nat}{ws:List Int}{s:Slc}(hs:s.n=ws.length)(h:HP)(H:star [blk p [.slice s.a s.n s.c],SLc s 1 (ws.map i64)] h):ArenaA p ws h:=⟨s,hs,H⟩
theorem arena_has(p:Nat)(ws:List Int)(i:Int):Spec ρ Tryz.prog 138 [.pointer (some ⟨p,0,none⟩),i64 i] [ArenaA p ws] RB
  fun r M=>r=decide (0≤i∧i<ws.length)∧M=[ArenaA p ws]:=by
 refine Spec.of (fun Q w h=>F.arena.words.has.calls (some ⟨p,0,none⟩) i h) fun R=> ?_
 unfold F.arena.words.has
 try simp only[lca,lna]
 refine en_br (fun h=> ?_) (fun h=> ?_)
 ·refine en_nn ?_
  refine ArenaA.op tk fun s hs=> ?_
  refine en_ld (by rw[fa_mk]) tk rfl ?_
  refine Tr.close tks (ArenaA.cl (p:=p) (ws:=ws) hs) ?_
  refine en_rets (x:=decide (0≤i∧i<ws.length)) ?_ ⟨rfl,rfl⟩ tks ens
  simp at h
  simp[h,hs,RK.val,KD.val,LK.val]
 ·refine en_rets (x:=decide (0≤i∧i<ws.length)) ?_ ⟨rfl,rfl⟩ tks ens
  simp at h
  simp[RK.val,KD.val,LK.val];omega
theorem arena_len(p:Nat)(ws:List Int):Spec ρ Tryz.prog 108 [.pointer (some ⟨p,0,none⟩)] [ArenaA p ws] R1
  fun r M=>r=ws.length∧M=[ArenaA p ws]:=by
 refine Spec.of (fun Q w h=>F.arena.Arena.Len.calls (some ⟨p,0,none⟩) h) fun R=> ?_
 unfold F.arena.Arena.Len
 try simp only[lca,lna]
 refine en_brf rfl (en_nn ?_)
 refine ArenaA.op tk fun s hs=> ?_
 refine en_ld (by rw[fa_mk,fa_mk]) tk rfl ?_
 refine Tr.close tks (ArenaA.cl (p:=p) (ws:=ws) hs) ?_
 rw[hs]
 exact en_rets (x:=((ws.length:Nat):Int)) rfl ⟨rfl,rfl⟩ tks ens
def Sp.load(ws:List Int)(i:Int):RT P2:=if 0≤i∧i<ws.length then(ws.getD i.toNat 0,0,())else(0,2,())
theorem getD_map{ws:List Int}{i:Nat}(h:i<ws.length):(ws.map i64)[i]? =some (i64 (ws.getD i 0)):=by
 simp[List.getD_eq_getElem?_getD,h]
theorem arena_load(p:Nat)(ws:List Int)(i:Int):Spec ρ Tryz.prog 103 [.pointer (some ⟨p,0,none⟩),i64 i] [ArenaA p ws] P2
  fun r M=>r=Sp.load ws i∧M=[ArenaA p ws]:=by
 refine Spec.of (fun Q w h=>F.arena.Arena.Load.calls (some ⟨p,0,none⟩) i h) fun R=> ?_
 unfold F.arena.Arena.Load
 try simp only[lca,lna]
 refine en_brf rfl (en_nn ?_)
 rw[fa_mk]
 refine en_call (arena_has p ws i) tks ?_
 rintro x M ⟨rfl,rfl⟩
 try simp only[lca,lna]
 refine en_br (fun h=> ?_) (fun h=> ?_)
 ·refine en_rets (x:=Sp.load ws i) ?_ ⟨rfl,rfl⟩ tks ens
  simp only[Bool.not_eq_true',decide_eq_false_iff_not]at h
  rw[Sp.load,if_neg h];rfl
 ·simp only[Bool.not_eq_false',decide_eq_true_eq]at h
  refine en_nn (ArenaA.op tk fun s hs=> ?_)
  refine en_ld (by rw[fa_mk,fa_mk]) tk rfl ?_
  refine en_ixSL tk h.1 (by rw[hs];exact h.2) fun a0 ha=> ?_
  refine en_ldSL (j:=i.toNat) ha tk (by rintro b o rfl;simp[fa_mk]) (getD_map (by omega)) ?_
  refine Tr.close tks (ArenaA.cl (p:=p) (ws:=ws) hs) ?_
  refine en_rets (x:=Sp.load ws i) ?_ ⟨rfl,rfl⟩ tks ens
  rw[Sp.load,if_pos h];rfl
def Sp.storeE(ws:List Int)(i:Int):Int:=if 0≤i∧i<ws.length then 0 else 2
def Sp.store(ws:List Int)(i x:Int):List Int:=if 0≤i∧i<ws.length then ws.set i.toNat x else ws
theorem arena_store(p:Nat)(ws:List Int)(i x:Int):Spec ρ Tryz.prog 125 [.pointer (some ⟨p,0,none⟩),i64 i,i64 x] [ArenaA p ws] R1
  fun r M=>r=Sp.storeE ws i∧M=[ArenaA p (Sp.store ws i x)]:=by
 refine Spec.of (fun Q w h=>F.arena.Arena.Store.calls (some ⟨p,0,none⟩) i x h) fun R=> ?_
 unfold F.arena.Arena.Store
 try simp only[lca,lna]
 refine en_brf rfl (en_nn ?_)
 rw[fa_mk]
 refine en_call (arena_has p ws i) tks ?_
 rintro r M ⟨rfl,rfl⟩
 try simp only[lca,lna]
 refine en_br (fun h=> ?_) (fun h=> ?_)
 ·simp only[Bool.not_eq_true',decide_eq_false_iff_not]at h
  have e:Sp.store ws i x=ws:=by rw[Sp.store,if_neg h]
  rw[e]
  refine en_rets (x:=Sp.storeE ws i) ?_ ⟨rfl,rfl⟩ tks ens
  rw[Sp.storeE,if_neg h];rfl
 ·simp only[Bool.not_eq_false',decide_eq_true_eq]at h
  refine en_nn (ArenaA.op tk fun s hs=> ?_)
  refine en_ld (by rw[fa_mk,fa_mk]) tk rfl ?_
  refine en_ixSL tk h.1 (by rw[hs];exact h.2) fun a0 ha=> ?_
  refine en_stSL (j:=i.toNat) ha tk (by rintro b o rfl;simp[fa_mk]) (by simp;omega) rfl ?_
  have hm:setL (ws.map i64) i.toNat [i64 x]=(ws.set i.toNat x).map i64:=by simp[setL]
  rw[hm]
  refine Tr.close tks (ArenaA.cl (p:=p) (ws:=ws.set i.toNat x) (by simpa using hs)) ?_
  have e:Sp.store ws i x=ws.set i.toNat x:=by rw[Sp.store,if_pos h]
  rw[e]
  refine en_rets (x:=Sp.storeE ws i) ?_ ⟨rfl,rfl⟩ tks ens
  rw[Sp.storeE,if_pos h];rfl
end Go.Proofs.YtfepdmpplahloaaGreat
namespace Go.Proofs.YtfepdmpplahloaaGreat
open Go Go.Gl
abbrev bv(b:Bool):Value:= .bool b
def BitsA(p:Nat)(l:List Bool):Asn:=fun h=>∃s:Slc,s.n=l.length∧star [blk p [.slice s.a s.n s.c],SLc s 1 (l.map bv)] h
variable{ρ0 ρ:FR}{L L':List Asn}{Post:Value→List Asn→Prop}{T:Tree}
theorem BitsA.op{p:Nat}{l:List Bool}(t:Take L (BitsA p l) L')(h:∀s:Slc,s.n=l.length→Tr ρ0 ρ (blk p [.slice s.a s.n s.c]::SLc s 1 (l.map bv)::L') T Post):Tr ρ0 ρ L T Post:=
 Tr.openL (M:=fun s:Slc=>[blk p [.slice s.a s.n s.c],SLc s 1 (l.map bv)]) t (fun _ h=>h) h
theorem BitsA.cl{p:Nat}{l:List Bool}{s:Slc}(hs:s.n=l.length)(h:HP)(H:star [blk p [.slice s.a s.n s.c],SLc s 1 (l.map bv)] h):BitsA p l h:=⟨s,hs,H⟩
theorem getD_bv{l:List Bool}{i:Nat}(h:i<l.length):(l.map bv)[i]? =some (bv (l.getD i false)):=by
 simp[List.getD_eq_getElem?_getD,h]
theorem bits_size(p:Nat)(l:List Bool):Spec ρ Tryz.prog 135 [.pointer (some ⟨p,0,none⟩)] [BitsA p l] R1 fun r M=>r=l.length∧M=[BitsA p l]:=by
 refine Spec.of (fun Q w h=>F.bits.Bits.Size.calls (some ⟨p,0,none⟩) h) fun R=> ?_
 unfold F.bits.Bits.Size
 try simp only[lca,lna]
 refine en_brf rfl (en_nn ?_)
 refine BitsA.op tk fun s hs=> ?_
 refine en_ld (by rw[fa_mk]) tk rfl ?_
 refine Tr.close tks (BitsA.cl (p:=p) (l:=l) hs) ?_
 rw[hs]
 exact en_rets (x:=((l.length:Nat):Int)) rfl ⟨rfl,rfl⟩ tks ens
theorem bits_place(p:Nat)(l:List Bool)(i:Int):Spec ρ Tryz.prog 140 [.pointer (some ⟨p,0,none⟩),i64 i] [BitsA p l] RB fun r M=>r=decide (0≤i∧i<l.length)∧M=[BitsA p l]:=by
 refine Spec.of (fun Q w h=>F.bits.Bits.place.calls (some ⟨p,0,none⟩) i h) fun R=> ?_
 unfold F.bits.Bits.place
 try simp only[lca,lna]
 refine en_br (fun h=> ?_) (fun h=> ?_)
 ·refine en_call (bits_size p l) tks ?_
  rintro x M ⟨rfl,rfl⟩
  try simp only[lca,lna]
  refine en_rets (x:=decide (0≤i∧i<l.length)) ?_ ⟨rfl,rfl⟩ tks ens
  simp at h
  simp[h,RK.val,KD.val,LK.val]
 ·refine en_rets (x:=decide (0≤i∧i<l.length)) ?_ ⟨rfl,rfl⟩ tks ens
  simp at h
  simp[RK.val,KD.val,LK.val];omega
def Sp.has(l:List Bool)(i:Int):Bool:=decide (0≤i)&&l.getD i.toNat false
theorem Sp.has_out{l:List Bool}{i:Int}(h:¬(0≤i∧i<l.length)):Sp.has l i=false:=by
 unfold Sp.has
 by_cases h0:0≤i
 ·have:l.length≤i.toNat:=by omega
  simp[List.getD_eq_getElem?_getD,List.getElem?_eq_none this]
 ·simp[h0]
theorem bits_has(p:Nat)(l:List Bool)(i:Int):Spec ρ Tryz.prog 109 [.pointer (some ⟨p,0,none⟩),i64 i] [BitsA p l] RB fun r M=>r=Sp.has l i∧M=[BitsA p l]:=by
 refine Spec.of (fun Q w h=>F.bits.Bits.Has.calls (some ⟨p,0,none⟩) i h) fun R=> ?_
 unfold F.bits.Bits.Has
 try simp only[lca,lna]
 refine en_call (bits_place p l i) tks ?_
 rintro x M ⟨rfl,rfl⟩
 try simp only[lca,lna]
 refine en_br (fun h=> ?_) (fun h=> ?_)
 ·simp only[decide_eq_true_eq]at h
  refine en_nn (BitsA.op tk fun s hs=> ?_)
  refine en_ld (by rw[fa_mk]) tk rfl ?_
  refine en_ixSL tk h.1 (by rw[hs];exact h.2) fun a0 ha=> ?_
  refine en_ldSL (j:=i.toNat) ha tk (by rintro b o rfl;simp[fa_mk]) (getD_bv (by omega)) ?_
  refine Tr.close tks (BitsA.cl (p:=p) (l:=l) hs) ?_
  refine en_rets (x:=Sp.has l i) ?_ ⟨rfl,rfl⟩ tks ens
  simp[Sp.has,h.1,RK.val,KD.val,LK.val]
 ·simp only[decide_eq_false_iff_not]at h
  refine en_rets (x:=Sp.has l i) ?_ ⟨rfl,rfl⟩ tks ens
  rw[Sp.has_out h];rfl
def Sp.nextN(l:List Bool)(is:Bool):Nat→Nat→Int
 |0,_=> -1
 |n+1,i=>if i<l.length∧l.getD i false=is then i else Sp.nextN l is n (i+1)
def Sp.next(l:List Bool)(start:Int)(is:Bool):Int:=Sp.nextN l is (l.length-start.toNat) start.toNat
theorem bits_next(p:Nat)(l:List Bool)(start:Int)(is:Bool)(hl:l.length≤16384):Spec ρ Tryz.prog 100 [.pointer (some ⟨p,0,none⟩),i64 start,.bool is] [BitsA p l] R1
  fun r M=>r=Sp.next l start is∧M=[BitsA p l]:=by
 refine Spec.of (fun Q w h=>F.bits.Bits.Next.calls (some ⟨p,0,none⟩) start is h) fun R=> ?_
 unfold F.bits.Bits.Next
 try simp only[lca,lna]
 refine en_lp (fun n s M=>(fun i:Int=>M=BitsA p l::R∧0≤i∧n=l.length-i.toNat∧Sp.nextN l is n i.toNat=Sp.next l start is) s.1) (l.length-start.toNat) ?_ ?_
 ·have e:(if start>0 then start else 0).toNat=start.toNat:=by split<;>omega
  exact⟨rfl,by dsimp only;split<;>omega,by dsimp only;rw[e],by dsimp only;rw[e];rfl⟩
 ·rintro n ⟨(i:Int),⟨⟩⟩ M ⟨rfl,h0,rfl,hn⟩ X hX
  dsimp only at*
  refine en_call (bits_size p l) tks ?_
  rintro x M ⟨rfl,rfl⟩
  try simp only[lca,lna]
  refine en_br (fun h=> ?_) (fun h=> ?_)
  ·replace h:i<(l.length:Int):=of_decide_eq_true h
   obtain⟨k,hk⟩:∃k,l.length-i.toNat=k+1:=⟨l.length-i.toNat-1,by omega⟩
   rw[hk]at hn hX
   unfold Sp.nextN at hn
   refine en_nn (BitsA.op tk fun s hs=> ?_)
   refine en_ld (by rw[fa_mk]) tk rfl ?_
   refine en_ixSL tk h0 (by rw[hs];exact h) fun a0 ha=> ?_
   refine en_ldSL (j:=i.toNat) ha tk (by rintro b o rfl;simp[fa_mk]) (getD_bv (by omega)) ?_
   refine Tr.close tks (BitsA.cl (p:=p) (l:=l) hs) ?_
   refine en_br (fun h2=> ?_) (fun h2=> ?_)
   ·rw[if_pos ⟨by omega,by simpa using h2⟩]at hn
    refine en_rets (x:=Sp.next l start is) ?_ ⟨rfl,rfl⟩ tks ens
    rw[←hn];simp[RK.val,KD.val,LK.val];omega
   ·rw[if_neg (by rintro⟨_,h3⟩;rw[h3]at h2;simp at h2)]at hn
    have hw:IntKind.wrap .i64 (i+1)=i+1:=wrap64 (by omega) (by omega)
    rw[hw]
    refine hX k _ _ (by omega) ⟨rfl,by dsimp only;omega,by dsimp only;omega,?_⟩
    rw[←hn]
    dsimp only
    congr 1
    omega
  ·replace h:¬i<(l.length:Int):=of_decide_eq_false h
   have hk:l.length-i.toNat=0:=by omega
   rw[hk]at hn
   unfold Sp.nextN at hn
   refine en_rets (x:=Sp.next l start is) ?_ ⟨rfl,rfl⟩ tks ens
   rw[←hn];rfl
end Go.Proofs.YtfepdmpplahloaaGreat
namespace Go.Gl
open Go
variable{ρ0 ρ:FR}{L L':List Asn}{Post:Value→List Asn→Prop}
theorem en_chkW{ρ':FR}(hle:Le ρ ρ'){M R:List Asn}{T:Tree}(t:Takes L M R)(h:Tr ρ0 ρ' L T Post):Tr ρ0 ρ' L (chk (Sat ρ M) T) Post:=fun h0 w hw=>
 ⟨(((hw.perm t.perm).perm List.perm_append_comm).dropL).weak hle,h h0 w hw⟩
theorem setL_eq{xs vs:List Value}{j:Nat}(h:j+vs.length≤xs.length):setL xs j vs=xs.take j++(vs++xs.drop (j+vs.length)):=by
 have h1:xs=xs.take j++xs.drop j:=(List.take_append_drop j xs).symm
 have h2:(xs.take j).length=j:=by simp;omega
 have:=setL_over (xs:=xs.take j) (rest:=xs.drop j) (ys:=vs) (by simp;omega)
 rw[h2]at this
 conv=>lhs;rw[h1]
 rw[this];simp[List.append_assoc,List.drop_drop]
theorem zeroCells1(z:Value)(n:Nat):(Builtin.zeroCells #[z] n).toList=List.replicate n z:=by
 unfold Builtin.zeroCells
 apply List.ext_getElem
 ·simp
 ·intro i h1 h2
  simp[Nat.mod_one]
theorem en_clr{P:Program}{tt e ty:TypeId}{z zz:Value}{s:Slc}{xs:List Value}{l n c:Nat}{a':Option Addr}{k:RT (.many [])→Tree}(hu:P.underlying tt=some (.slice e))
  (hi:(P.info? e).bind (·.zero)=some zz) (hz:zz.cells= #[z]) (h1:one1 z=true) (t:Take L (SLc s 1 xs) L') (hn:0<n) (hl:l+n≤s.n) (ha:a'=s.a.map fun b=>fa b (l*1))
  (h:Tr ρ0 ρ (SLc s 1 (setL xs l (List.replicate n z))::L') (k ()) Post):
  Tr ρ0 ρ L (opr P (Builtin.clear_ #[tt] ty #[.slice a' n c]) (.many []) k) Post:=by
 refine Tr.take t (en_opr (fun r M=>M=SLc s 1 (setL xs l (List.replicate n z))::L') (fun w hw=> ?_) (fun x M hM=>by subst hM;exact h))
 obtain⟨n,rfl⟩:∃k,n=k+1:=⟨n-1,by omega⟩
 rcases hw.sl with ⟨g1,g2,g3,g4,g5⟩|⟨b,off,pre,rest,g1,g2,g3,g4,g5,g6⟩
 ·omega
 have hst:=one1_store (P:=P) (vs:=List.replicate (n+1) z) (off:=off+l) g6 (by simp[h1]) (by simp;omega)
 refine⟨(),stF ⟨b,off+l,none⟩ 0 (List.replicate (n+1) z) w,_,?_,rfl,?_⟩
 rotate_left
 ·have hs:=sat_stF (List.replicate (n+1) z) (off+l) 0 _ w g6
  have e2:setL (pre++(xs++rest)) (off+l+0) (List.replicate (n+1) z)=pre++(setL xs l (List.replicate (n+1) z)++rest):=by
   rw[Nat.add_zero,←g2];exact setL_mid (by simp;omega)
  rw[e2]at hs
  exact Sat.imp (fun h hh=> .inr ⟨b,off,pre,rest,g1,g2,by rw[setL_length];exact g3,g4,g5,hh⟩) hs
 ·rw[ha,g1]
  simp only[Option.map_some,fa_mk,Nat.mul_one]
  unfold Builtin.clear_
  have a0:(#[.slice (some ⟨b,off+l,none⟩) (n+1) c]:Array Value)[0]? =some (.slice (some ⟨b,off+l,none⟩) (n+1) c):=rfl
  have t0:(#[tt]:Array TypeId)[0]? =some tt:=rfl
  simp only[a0,t0,Sem.run_bind,run_underlying hu,Result.andThen_ok,run_zero hi,hz,zeroCells1,hst,Sem.run_pure]
  rfl
end Go.Gl
namespace Go.Proofs.YtfepdmpplahloaaGreat
open Go Go.Gl
variable{ρ0 ρ:FR}{L L':List Asn}{Post:Value→List Asn→Prop}{T:Tree}
abbrev PE:RK:= .many [.l .ptr,.l (.int .i64)]
theorem rep1(n:Nat)(v:Value):(List.replicate n [v]).flatten=List.replicate n v:=by
 induction n with
 |zero=>rfl
 |succ n ih=>simp[List.replicate_succ,ih]
theorem arena_new(n:Int)(h0:1≤n)(h1:n≤256):Spec ρ Tryz.prog 114 [i64 n] [] PE
  fun r M=>∃b,r=(some ⟨b,0,none⟩,0,())∧M=[ArenaA b (List.replicate (n.toNat*64) 0)]:=by
 refine Spec.of (fun Q w h=>F.arena.New.calls n h) fun R=> ?_
 unfold F.arena.New
 try simp only[lca,lna]
 refine en_brf (by simp;omega) (en_brf (by simp;omega) ?_)
 rw[wrap64 (by omega) (by omega)]
 refine en_mks (e:=3) (m:=1) (bytes:=8) (z:= .int .i64 0) (by kernel_rfl) (by kernel_rfl) rfl (by omega) (by omega) (by omega) fun b=> ?_
 refine en_nw fun b2=> ?_
 have e:(List.replicate (n*64).toNat (Value.cells (.int .i64 0)).toList).flatten=(List.replicate (n.toNat*64) (0:Int)).map i64:=by
  rw[show(Value.cells (.int .i64 0)).toList=[i64 0]from rfl,rep1]
  rw[List.map_replicate,show(n*64).toNat=n.toNat*64 by omega]
 rw[e]
 refine Tr.close (M:=[blk b2 [.slice (some ⟨b,0,none⟩) (n*64).toNat (n*64).toNat],SLc ⟨some ⟨b,0,none⟩,(n*64).toNat,(n*64).toNat⟩ 1 ((List.replicate (n.toNat*64) (0:Int)).map i64)]) tks (ArenaA.cl (p:=b2) (ws:=List.replicate (n.toNat*64) 0) (s:=⟨some ⟨b,0,none⟩,(n*64).toNat,(n*64).toNat⟩) (by simp only[List.length_replicate];omega)) ?_
 exact en_rets (x:=(some ⟨b2,0,none⟩,0,())) rfl ⟨b2,rfl,rfl⟩ tks ens
def Sp.clr(ws:List Int)(i n:Nat):List Int:=ws.take i++(List.replicate n 0++ws.drop (i+n))
def Sp.fillOk(ws:List Int)(i n:Int):Prop:=0≤n∧0≤i∧n≤max 0 (ws.length-i)
instance (ws:List Int) (i n:Int):Decidable (Sp.fillOk ws i n):=by unfold Sp.fillOk;infer_instance
theorem arena_fill(p:Nat)(ws:List Int)(i n:Int)(hl:ws.length≤16384)(hn:0<n)(hi:0≤i)(hw:i+n≤ws.length):Spec ρ Tryz.prog 196 [.pointer (some ⟨p,0,none⟩),i64 i,i64 n] [ArenaA p ws] R1
  fun r M=>r=0∧M=[ArenaA p (Sp.clr ws i.toNat n.toNat)]:=by
 refine Spec.of (fun Q w h=>F.arena.Arena.Fill.calls (some ⟨p,0,none⟩) i n h) fun R=> ?_
 unfold F.arena.Arena.Fill
 try simp only[lca,lna]
 refine en_brf rfl (en_brf (by simp;omega) (en_brf (by simp;omega) (en_nn ?_)))
 refine ArenaA.op tk fun s hs=> ?_
 refine en_ld (by rw[fa_mk,fa_mk]) tk rfl ?_
 rw[wrap64 (by omega) (by omega)]
 refine en_brf (by simp;omega) (en_brt (by simp;omega) (en_nn ?_))
 refine en_ld (by rw[fa_mk,fa_mk]) tk rfl ?_
 rw[wrap64 (by omega) (by omega)]
 refine Tr.sl_len (s:=s) (m:=1) (xs:=ws.map i64) tk fun hlen hc=> ?_
 refine en_slc hi (by omega) (by omega) ?_
 dsimp only
 refine en_clr (e:=3) (zz:=i64 0) (z:=i64 0) (s:=s) (xs:=ws.map i64) (l:=i.toNat) (by kernel_rfl) (by kernel_rfl) rfl rfl tk (by omega) (by omega) (by rw[if_neg (by omega)]) ?_
 have e:setL (ws.map i64) i.toNat (List.replicate ((i+n).toNat-i.toNat) (i64 0))=(Sp.clr ws i.toNat n.toNat).map i64:=by
  rw[setL_eq (by simp;omega),Sp.clr,show(i+n).toNat-i.toNat=n.toNat by omega]
  simp
 rw[e]
 refine Tr.close tks (ArenaA.cl (p:=p) (ws:=Sp.clr ws i.toNat n.toNat) (s:=s) (by simp[Sp.clr];omega)) ?_
 exact en_rets (x:=(0:Int)) rfl ⟨rfl,rfl⟩ tks ens
theorem bits_new(n:Int)(h0:0≤n)(h1:n≤16384):Spec ρ Tryz.prog 153 [i64 n] [] PE
  fun r M=>∃b,r=(some ⟨b,0,none⟩,0,())∧M=[BitsA b (List.replicate n.toNat false)]:=by
 refine Spec.of (fun Q w h=>F.bits.New.calls n h) fun R=> ?_
 unfold F.bits.New
 try simp only[lca,lna]
 refine en_brf (by simp;omega) (en_brf (by simp;omega) ?_)
 refine en_mks (e:=4) (m:=1) (bytes:=1) (z:= .bool false) (by kernel_rfl) (by kernel_rfl) rfl (by omega) (by omega) (by omega) fun b=> ?_
 refine en_nw fun b2=> ?_
 have e:(List.replicate n.toNat (Value.cells (.bool false)).toList).flatten=(List.replicate n.toNat false).map bv:=by
  rw[show(Value.cells (.bool false)).toList=[bv false]from rfl,rep1]
  simp
 rw[e]
 refine Tr.close (M:=[blk b2 [.slice (some ⟨b,0,none⟩) n.toNat n.toNat],SLc ⟨some ⟨b,0,none⟩,n.toNat,n.toNat⟩ 1 ((List.replicate n.toNat false).map bv)]) tks (BitsA.cl (p:=b2) (l:=List.replicate n.toNat false) (s:=⟨some ⟨b,0,none⟩,n.toNat,n.toNat⟩) (by simp)) ?_
 exact en_rets (x:=(some ⟨b2,0,none⟩,0,())) rfl ⟨b2,rfl,rfl⟩ tks ens
theorem idx_func(s:Slc)(xs:List Int)(hs:RoS ρ s 1 (xs.map i64))(hl:xs.length<2^62){f:FuncId}{fn:Func}{c:Array Value}{A:List Asn}{g:Int→Bool}(hf:Tryz.prog.funcs[f]? =some fn)(hb:fn.body.isSome=true)
  (hg:∀x,Spec ρ Tryz.prog f ([i64 x]++c.toList) A RB fun r M=>r=g x∧M=A):
  Spec ρ Tryz.prog 210 [.slice s.a s.n s.c,.func (.func f) #[] c] A R1 fun r M=>decide (0≤r)=xs.any g∧M=A:=by
 refine Spec.of (fun Q w h=>F.slices.IndexFunc.calls s (.func (.func f) #[] c) h) fun R=> ?_
 unfold F.slices.IndexFunc
 have hn:s.n=xs.length:=by have:=hs.1;simpa using this.symm
 refine en_lp (fun n u M=>(fun i:Int=>M=A++R∧0≤i∧i≤xs.length∧n=xs.length-i.toNat∧xs.any g=(xs.drop i.toNat).any g) u.1) xs.length ?_ ?_
 ·exact⟨rfl,by simp,by dsimp only;omega,by dsimp only;omega,by simp⟩
 ·rintro n ⟨(i:Int),⟨⟩⟩ M ⟨rfl,h0,h1,rfl,hn2⟩ X hX
  dsimp only at*
  refine en_br (fun h=> ?_) (fun h=> ?_)
  ·replace h:i<(s.n:Int):=of_decide_eq_true h
   have hi:i.toNat<xs.length:=by omega
   refine en_ixRo hs h0 h fun a0 ha=> ?_
   refine en_ldRo (j:=i.toNat) (x:=xs.getD i.toNat 0) ha hs (by rintro b o rfl;simp[fa_mk]) (getD_map hi) ?_
   refine en_callV hf hb (hg _) (Takes.app _ _) ?_
   rintro r M ⟨rfl,rfl⟩
   have hd:xs.drop i.toNat=xs.getD i.toNat 0::xs.drop (i.toNat+1):=by
    rw[List.drop_eq_getElem_cons hi];simp[List.getD_eq_getElem?_getD,hi]
   rw[hd,List.any_cons]at hn2
   refine en_br (fun h2=> ?_) (fun h2=> ?_)
   ·refine en_rets (x:=i) rfl ⟨?_,rfl⟩ (Takes.app _ _) .refl
    rw[hn2,h2];simp[h0]
   ·rw[wrap64 (by omega) (by omega)]
    refine hX (xs.length-(i+1).toNat) _ _ (by omega) ⟨rfl,by dsimp only;omega,by dsimp only;omega,rfl,?_⟩
    rw[hn2,h2,Bool.false_or]
    dsimp only;rw[show(i+1).toNat=i.toNat+1 by omega]
  ·replace h:¬i<(s.n:Int):=of_decide_eq_false h
   refine en_rets (x:=(-1:Int)) rfl ⟨?_,rfl⟩ (Takes.app _ _) .refl
   rw[hn2,List.drop_eq_nil_of_le (by omega)];rfl
theorem contains_func(s:Slc)(xs:List Int)(hs:RoS ρ s 1 (xs.map i64))(hl:xs.length<2^62){f:FuncId}{fn:Func}{c:Array Value}{A:List Asn}{g:Int→Bool}(hf:Tryz.prog.funcs[f]? =some fn)(hb:fn.body.isSome=true)
  (hg:∀x,Spec ρ Tryz.prog f ([i64 x]++c.toList) A RB fun r M=>r=g x∧M=A):
  Spec ρ Tryz.prog 192 [.slice s.a s.n s.c,.func (.func f) #[] c] A RB fun r M=>r=xs.any g∧M=A:=by
 refine Spec.of (fun Q w h=>F.slices.ContainsFunc.calls s (.func (.func f) #[] c) h) fun R=> ?_
 unfold F.slices.ContainsFunc
 refine en_call (idx_func s xs hs hl hf hb hg) (Takes.app _ _) ?_
 rintro r M ⟨hr,rfl⟩
 refine en_rets (x:=xs.any g) ?_ ⟨rfl,rfl⟩ (Takes.app _ _) .refl
 rw[←hr];rfl
theorem bits_set1(p b:Nat)(l:List Bool)(x:Int):Spec ρ Tryz.prog 193 ([i64 x]++[.pointer (some ⟨b,0,none⟩)]) [blk b [.pointer (some ⟨p,0,none⟩)],BitsA p l] RB
  fun r M=>r= !decide (0≤x∧x<l.length)∧M=[blk b [.pointer (some ⟨p,0,none⟩)],BitsA p l]:=by
 refine Spec.of (fun Q w h=>F.bits.Bits.Set_1.calls x (some ⟨b,0,none⟩) h) fun R=> ?_
 unfold F.bits.Bits.Set_1
 try simp only[lca,lna]
 refine en_nn (en_ld (k:= .ptr) (x:=some ⟨p,0,none⟩) rfl tk rfl ?_)
 refine en_call (bits_place p l x) tks ?_
 rintro r M ⟨rfl,rfl⟩
 try simp only[lca,lna]
 exact en_rets (x:= !decide (0≤x∧x<l.length)) rfl ⟨rfl,rfl⟩ tks ens
def Sp.setOk(l:List Bool)(xs:List Int):Bool:=xs.all fun i=>decide (0≤i∧i<l.length)
def Sp.setAll(l:List Bool)(is:Bool)(xs:List Int):List Bool:=xs.foldl (fun l i=>l.set i.toNat is) l
theorem Sp.setAll_len{l:List Bool}{is:Bool}{xs:List Int}:(Sp.setAll l is xs).length=l.length:=by
 unfold Sp.setAll
 induction xs generalizing l with
 |nil=>rfl
 |cons x xs ih=>simp only[List.foldl_cons];rw[ih];simp
theorem bits_set(p:Nat)(l:List Bool)(is:Bool)(s:Slc)(xs:List Int)(hs:RoS ρ s 1 (xs.map i64))(hl:xs.length<2^62):
  Spec ρ Tryz.prog 154 [.pointer (some ⟨p,0,none⟩),.bool is,.slice s.a s.n s.c] [BitsA p l] R1
  fun r M=>r=(if Sp.setOk l xs then 0 else 2)∧M=[BitsA p (if Sp.setOk l xs then Sp.setAll l is xs else l)]:=by
 refine Spec.of (fun Q w h=>F.bits.Bits.Set.calls (some ⟨p,0,none⟩) is s h) fun R=> ?_
 unfold F.bits.Bits.Set
 try simp only[lca,lna]
 have hn:s.n=xs.length:=by have:=hs.1;simpa using this.symm
 refine en_nw fun b=> ?_
 refine en_ld (k:= .ptr) (x:=some ⟨p,0,none⟩) rfl tk rfl (en_brf rfl ?_)
 refine en_call (contains_func s xs hs hl (c:= #[.pointer (some ⟨b,0,none⟩)]) (f:=193) (fn:=Tryz.f193) Tryz.func193 (by kernel_rfl) fun x=>bits_set1 p b l x) tks ?_
 rintro r M ⟨rfl,rfl⟩
 try simp only[lca,lna]
 have hok:(xs.any fun x=> !decide (0≤x∧x<l.length))= !Sp.setOk l xs:=by
  unfold Sp.setOk;rw[List.not_all_eq_any_not]
 refine en_br (fun h=> ?_) (fun h=> ?_)
 ·rw[hok]at h
  have h':¬Sp.setOk l xs=true:=by simpa using h
  rw[if_neg h',if_neg h']
  exact en_rets (x:=(2:Int)) rfl ⟨rfl,rfl⟩ tks ens
 ·rw[hok]at h
  have h':Sp.setOk l xs=true:=by simpa using h
  rw[if_pos h',if_pos h']
  refine Tr.take (A:=BitsA p l) tk ?_
  refine en_lp (fun n u M=>(fun i:Int=>M=BitsA p (Sp.setAll l is (xs.take i.toNat))::blk b [.pointer (some ⟨p,0,none⟩)]::R∧0≤i∧i≤xs.length∧n=xs.length-i.toNat) u.1) xs.length ?_ ?_
  ·exact⟨rfl,by simp,by dsimp only;omega,by dsimp only;omega⟩
  ·rintro n ⟨(i:Int),⟨⟩⟩ M ⟨rfl,h0,h1,rfl⟩ X hX
   dsimp only at*
   refine en_br (fun h=> ?_) (fun h=> ?_)
   ·replace h:i<(s.n:Int):=of_decide_eq_true h
    have hi:i.toNat<xs.length:=by omega
    refine en_ixRo hs h0 h fun a0 ha=> ?_
    refine en_ldRo (j:=i.toNat) (x:=xs.getD i.toNat 0) ha hs (by rintro b o rfl;simp[fa_mk]) (getD_map hi) ?_
    refine en_ld (k:= .ptr) (x:=some ⟨p,0,none⟩) rfl tk rfl (en_nn ?_)
    have hx:0≤xs.getD i.toNat 0∧xs.getD i.toNat 0<l.length:=by
     have:=(List.all_eq_true.mp h') (xs.getD i.toNat 0) (by simp[List.getD_eq_getElem?_getD,hi])
     simpa using this
    refine BitsA.op tk fun s2 hs2=> ?_
    rw[Sp.setAll_len]at hs2
    refine en_ld (by rw[fa_mk]) tk rfl ?_
    refine en_ixSL tk hx.1 (by rw[hs2];exact hx.2) fun a1 ha1=> ?_
    refine en_stSL (j:=(xs.getD i.toNat 0).toNat) ha1 tk (by rintro b o rfl;simp[fa_mk]) (by simp only[List.length_map,Sp.setAll_len,List.length_singleton];omega) rfl ?_
    have hm:setL ((Sp.setAll l is (xs.take i.toNat)).map bv) (xs.getD i.toNat 0).toNat [bv is]=(Sp.setAll l is (xs.take (i.toNat+1))).map bv:=by
     have:xs.take (i.toNat+1)=xs.take i.toNat++[xs.getD i.toNat 0]:=by
      rw[List.take_add_one];simp[List.getD_eq_getElem?_getD,hi]
     rw[this];simp[setL,Sp.setAll,List.foldl_append]
    rw[hm]
    refine Tr.close tks (BitsA.cl (p:=p) (l:=Sp.setAll l is (xs.take (i.toNat+1))) (by rw[Sp.setAll_len];exact hs2)) ?_
    rw[wrap64 (by omega) (by omega)]
    have e:(i+1).toNat=i.toNat+1:=by omega
    exact hX (xs.length-(i+1).toNat) _ _ (by omega) ⟨by dsimp only;rw[e],by dsimp only;omega,by dsimp only;omega,rfl⟩
   ·replace h:¬i<(s.n:Int):=of_decide_eq_false h
    rw[List.take_of_length_le (by omega)]
    exact en_rets (x:=(0:Int)) rfl ⟨rfl,rfl⟩ tks ens
end Go.Proofs.YtfepdmpplahloaaGreat
namespace Go.Proofs.YtfepdmpplahloaaGreat
open Go Go.Gl
variable{ρ0 ρ:FR}{L L':List Asn}{Post:Value→List Asn→Prop}{T:Tree}
theorem Sp.nextN_spec(l:List Bool)(is:Bool):∀n i,n=l.length-i→
  (Sp.nextN l is n i= -1∧∀j,i≤j→j<l.length→l.getD j false≠is)∨
  ∃k:Nat,Sp.nextN l is n i=k∧i≤k∧k<l.length∧l.getD k false=is∧∀j,i≤j→j<k→l.getD j false≠is:=by
 intro n
 induction n with
 |zero=>intro i h;exact .inl ⟨rfl,fun j h1 h2=>by omega⟩
 |succ n ih=>
  intro i h
  unfold Sp.nextN
  by_cases hc:i<l.length∧l.getD i false=is
  ·rw[if_pos hc]
   exact .inr ⟨i,rfl,Nat.le_refl _,hc.1,hc.2,fun j h1 h2=>by omega⟩
  ·rw[if_neg hc]
   have h0:l.getD i false≠is:=fun h'=>hc ⟨by omega,h'⟩
   rcases ih (i+1) (by omega)with ⟨h1,h2⟩|⟨k,h1,h2,h3,h4,h5⟩
   ·refine .inl ⟨h1,fun j hj hl=> ?_⟩
    rcases Nat.lt_or_ge i j with h|h
    ·exact h2 j h hl
    ·have:j=i:=by omega
     subst this;exact h0
   ·refine .inr ⟨k,h1,by omega,h3,h4,fun j hj hl=> ?_⟩
    rcases Nat.lt_or_ge i j with h|h
    ·exact h5 j h hl
    ·have:j=i:=by omega
     subst this;exact h0
theorem Sp.next_spec(l:List Bool)(is:Bool)(i:Nat):
  (Sp.next l i is= -1∧∀j,i≤j→j<l.length→l.getD j false≠is)∨
  ∃k:Nat,Sp.next l i is=k∧i≤k∧k<l.length∧l.getD k false=is∧∀j,i≤j→j<k→l.getD j false≠is:=by
 have:=Sp.nextN_spec l is (l.length-i) i rfl
 simpa[Sp.next]using this
def Sp.clearAt(l:List Bool)(i k:Nat):Bool:=(List.range k).all fun j=> !l.getD (i+j) false
theorem Sp.clearAt_iff{l:List Bool}{i k:Nat}:Sp.clearAt l i k=true↔∀j,i≤j→j<i+k→l.getD j false=false:=by
 unfold Sp.clearAt
 rw[List.all_eq_true]
 constructor
 ·intro h j h1 h2
  have:=h (j-i) (by simp;omega)
  rw[show i+(j-i)=j by omega]at this
  simpa using this
 ·intro h j hj
  simp at hj
  have:=h (i+j) (by omega) (by omega)
  rw[this];rfl
def Sp.run(l:List Bool)(k:Nat):Option Nat:=(List.range (l.length+1-k)).find? fun i=>Sp.clearAt l i k
def Sp.oI:Option Nat→Int|some i=>i|none=> -1
theorem Sp.run_some{l:List Bool}{k i:Nat}(h1:i+k≤l.length)(h2:Sp.clearAt l i k=true)(h3:∀j,j<i→Sp.clearAt l j k=false):Sp.run l k=some i:=by
 unfold Sp.run
 rw[List.find?_range_eq_some]
 exact⟨h2,by simp;omega,fun j hj=>by simp[h3 j hj]⟩
theorem Sp.run_none{l:List Bool}{k:Nat}(h3:∀j,j+k≤l.length→Sp.clearAt l j k=false):Sp.run l k=none:=by
 unfold Sp.run
 rw[List.find?_range_eq_none]
 intro j hj
 simp[h3 j (by omega)]
theorem Sp.run_is{l:List Bool}{k i:Nat}(h:Sp.run l k=some i):i+k≤l.length∧Sp.clearAt l i k=true∧∀j,j<i→Sp.clearAt l j k=false:=by
 unfold Sp.run at h
 rw[List.find?_range_eq_some]at h
 obtain⟨h1,h2,h3⟩:=h
 simp at h2
 exact⟨by omega,h1,fun j hj=>by simpa using h3 j hj⟩
theorem bits_run(p:Nat)(l:List Bool)(k:Nat)(hk:1≤k)(hk2:k<2^62)(hl:l.length≤16384):Spec ρ Tryz.prog 224 [.pointer (some ⟨p,0,none⟩),i64 0,i64 k] [BitsA p l] R1
  fun r M=>r=Sp.oI (Sp.run l k)∧M=[BitsA p l]:=by
 refine Spec.of (fun Q w h=>F.bits.Bits.Run.calls (some ⟨p,0,none⟩) 0 k h) fun R=> ?_
 unfold F.bits.Bits.Run
 try simp only[lca,lna]
 refine en_brf (by simp;omega) ?_
 refine en_lp (fun n s M=>(fun f i:Int=>M=BitsA p l::R∧0≤f∧f≤i∧f<k∧i≤l.length∧n=l.length-i.toNat∧(∀j:Nat,i-f≤j→j<i→l.getD j false=false)∧
   (f<i→l.getD (i-f-1).toNat false=true)∧∀j:Nat,j+k≤i→Sp.clearAt l j k=false) s.1 s.2.1) l.length ?_ ?_
 ·refine⟨rfl,by simp,by simp,by simp;omega,by simp,by simp,?_,by simp,?_⟩
  ·intro j h1 h2;dsimp only at*;simp at h2;omega
  ·intro j h2;dsimp only at*;simp at h2;omega
 ·rintro n ⟨(f:Int),(i:Int),⟨⟩⟩ M ⟨rfl,h0,h1,h2,h3,rfl,h4,h5,h6⟩ X hX
  dsimp only at*
  refine en_call (bits_size p l) tks ?_
  rintro x M ⟨rfl,rfl⟩
  try simp only[lca,lna]
  refine en_br (fun h=> ?_) (fun h=> ?_)
  ·replace h:i<(l.length:Int):=of_decide_eq_true h
   refine en_nn (BitsA.op tk fun s hs=> ?_)
   refine en_ld (by rw[fa_mk]) tk rfl ?_
   refine en_ixSL tk (by omega) (by rw[hs];exact h) fun a0 ha=> ?_
   refine en_ldSL (j:=i.toNat) ha tk (by rintro b o rfl;simp[fa_mk]) (getD_bv (by omega)) ?_
   refine Tr.close tks (BitsA.cl (p:=p) (l:=l) hs) ?_
   have w1:IntKind.wrap .i64 (i+1)=i+1:=wrap64 (by omega) (by omega)
   have w2:IntKind.wrap .i64 (f+1)=f+1:=wrap64 (by omega) (by omega)
   rw[w1,w2]
   refine en_br (fun hb=> ?_) (fun hb=> ?_)
   ·refine en_brf (by simp;omega) ?_
    refine hX (l.length-(i+1).toNat) _ _ (by omega) ⟨rfl,by dsimp only;omega,by dsimp only;omega,by dsimp only;omega,by dsimp only;omega,rfl,?_,?_,?_⟩
    ·intro j g1 g2;dsimp only at*;omega
    ·intro _;dsimp only;rw[show(i+1-0-1).toNat=i.toNat by omega];exact hb
    ·intro j hj;dsimp only at*
     rcases Int.lt_or_le i (j+k)with g|g
     ·cases hc:Sp.clearAt l j k with
      |false=>rfl
      |true=>
       have:=Sp.clearAt_iff.mp hc i.toNat (by omega) (by omega)
       rw[hb]at this;cases this
     ·exact h6 j g
   ·have hall:∀j:Nat,i-f≤j→j<i+1→l.getD j false=false:=fun j g1 g2=>by
     rcases Int.lt_or_le j i with g|g
     ·exact h4 j g1 g
     ·rw[show j=i.toNat by omega];exact hb
    refine en_br (fun hf=> ?_) (fun hf=> ?_)
    ·replace hf:f+1=k:=by simpa using hf
     have hw:IntKind.wrap .i64 (i+1-k)=i+1-k:=wrap64 (by omega) (by omega)
     rw[hw]
     have hr:Sp.run l k=some (i+1-k).toNat:=by
      refine Sp.run_some (by omega) (Sp.clearAt_iff.mpr fun j g1 g2=>hall j (by omega) (by omega)) fun j hj=>h6 j (by omega)
     rw[hr]
     refine en_rets (x:=Sp.oI (some (i+1-k).toNat)) ?_ ⟨rfl,rfl⟩ tks ens
     simp[Sp.oI,RK.val,KD.val,LK.val];omega
    ·replace hf:¬f+1=k:=by simpa using hf
     refine hX (l.length-(i+1).toNat) _ _ (by omega) ⟨rfl,by dsimp only;omega,by dsimp only;omega,by dsimp only;omega,by dsimp only;omega,rfl,?_,?_,?_⟩
     ·intro j g1 g2;dsimp only at*;exact hall j (by omega) g2
     ·intro g;dsimp only at*;rw[show(i+1-(f+1)-1).toNat=(i-f-1).toNat by omega];exact h5 (by omega)
     ·intro j hj;dsimp only at*
      rcases Int.lt_or_le i (j+k)with g|g
      ·cases hc:Sp.clearAt l j k with
       |false=>rfl
       |true=>
        have:=Sp.clearAt_iff.mp hc (i-f-1).toNat (by omega) (by omega)
        rw[h5 (by omega)]at this;cases this
      ·exact h6 j g
  ·replace h:¬i<(l.length:Int):=of_decide_eq_false h
   have hr:Sp.run l k=none:=Sp.run_none fun j hj=>h6 j (by omega)
   rw[hr]
   exact en_rets (x:=Sp.oI none) rfl ⟨rfl,rfl⟩ tks ens
theorem take_succ_getD{α:Type}{l:List α}{k:Nat}(d:α)(h:k<l.length):l.take (k+1)=l.take k++[l.getD k d]:=by
 rw[List.take_add_one];simp[List.getD_eq_getElem?_getD,h]
theorem count_take{l:List Bool}{q k:Nat}(hq:q≤k)(hk:k<l.length)(h1:l.getD k false=true)(h2:∀j,q≤j→j<k→l.getD j false≠true):(l.take (k+1)).count true=(l.take q).count true+1:=by
 induction k with
 |zero=>
  have:q=0:=by omega
  subst this
  cases l with
  |nil=>simp at hk
  |cons a l=>simp at h1;simp[h1]
 |succ k ih=>
  have e1:l.take (k+1+1)=l.take (k+1)++[true]:=by
   rw[take_succ_getD false hk,h1]
  rw[e1,List.count_append]
  simp only[List.count_singleton_self,Nat.add_right_cancel_iff]
  rcases Nat.lt_or_ge q (k+1)with g|g
  ·clear ih h1 e1
   have key:∀d,q+d≤k+1→(l.take (q+d)).count true=(l.take q).count true:=by
    intro d
    induction d with
    |zero=>intro _;rfl
    |succ d ih=>
     intro hd
     have e1:l.take (q+d+1)=l.take (q+d)++[false]:=by
      have:=h2 (q+d) (by omega) (by omega)
      have hl:q+d<l.length:=by omega
      rw[take_succ_getD false hl,show l.getD (q+d) false=false by cases h:l.getD (q+d) false<;>simp_all]
     rw[show q+(d+1)=q+d+1 by omega,e1,List.count_append,ih (by omega)];rfl
   have:=key (k+1-q) (by omega)
   rw[←this];congr 2;omega
  ·rw[show q=k+1 by omega]
theorem count_none{l:List Bool}{q:Nat}(h2:∀j,q≤j→j<l.length→l.getD j false≠true):(l.take q).count true=l.count true:=by
 conv=>rhs;rw[←List.take_append_drop q l]
 rw[List.count_append]
 have:(l.drop q).count true=0:=by
  rw[List.count_eq_zero]
  intro hm
  obtain⟨j,hj,e⟩:=List.getElem_of_mem hm
  simp at hj e
  refine h2 (q+j) (by omega) (by omega) ?_
  have hl:q+j<l.length:=by omega
  simp[List.getD_eq_getElem?_getD,hl,e]
 omega
theorem bits_count(p:Nat)(l:List Bool)(hl:l.length≤16384):Spec ρ Tryz.prog 212 [.pointer (some ⟨p,0,none⟩)] [BitsA p l] R1
  fun r M=>r=(l.count true:Nat)∧M=[BitsA p l]:=by
 refine Spec.of (fun Q w h=>F.bits.Bits.Count.calls (some ⟨p,0,none⟩) h) fun R=> ?_
 unfold F.bits.Bits.Count
 try simp only[lca,lna]
 refine en_call (bits_next p l 0 true hl) tks ?_
 rintro x M ⟨rfl,rfl⟩
 try simp only[lca,lna]
 have hcl:∀q,(l.take q).count true≤l.length:=fun q=>Nat.le_trans List.count_le_length (by simp;omega)
 refine en_lp (fun n s M=>(fun c i:Int=>M=BitsA p l::R∧∃q:Nat,n=l.length-q∧i=Sp.next l q true∧c=((l.take q).count true:Nat)) s.1 s.2.1) l.length ?_ ?_
 ·exact⟨rfl,0,by simp,rfl,by simp⟩
 ·rintro n ⟨(c:Int),(i:Int),⟨⟩⟩ M ⟨rfl,q,rfl,hi,hc⟩ X hX
  dsimp only at*
  refine en_br (fun h=> ?_) (fun h=> ?_)
  ·replace h:i≥0:=of_decide_eq_true h
   rcases Sp.next_spec l true q with ⟨g1,g2⟩|⟨k,g1,g2,g3,g4,g5⟩
   ·omega
   ·rw[g1]at hi
    subst hi
    have w1:IntKind.wrap .i64 ((k:Int)+1)=((k+1:Nat):Int):=by rw[wrap64 (by omega) (by omega)];simp
    rw[w1]
    refine en_call (bits_next p l ((k+1:Nat):Int) true hl) tks ?_
    rintro x M ⟨rfl,rfl⟩
    try simp only[lca,lna]
    have:=hcl q
    have w2:IntKind.wrap .i64 (c+1)=c+1:=wrap64 (by omega) (by omega)
    rw[w2]
    refine hX (l.length-(k+1)) _ _ (by omega) ⟨rfl,k+1,rfl,rfl,?_⟩
    have e:=count_take g2 g3 g4 g5
    dsimp only;rw[e,hc];simp
  ·replace h:¬i≥0:=of_decide_eq_false h
   rcases Sp.next_spec l true q with ⟨g1,g2⟩|⟨k,g1,g2,g3,g4,g5⟩
   ·rw[count_none g2]at hc
    rw[hc]
    exact en_rets (x:=((l.count true:Nat):Int)) rfl ⟨rfl,rfl⟩ tks ens
   ·omega
def PagesA(p:Nat)(l:List Bool):Asn:=fun h=>∃b:Nat,star [blk p [.pointer (some ⟨b,0,none⟩)],BitsA b l] h
theorem PagesA.op{p:Nat}{l:List Bool}(t:Take L (PagesA p l) L')(h:∀b:Nat,Tr ρ0 ρ (blk p [.pointer (some ⟨b,0,none⟩)]::BitsA b l::L') T Post):Tr ρ0 ρ L T Post:=
 Tr.openL (M:=fun b:Nat=>[blk p [.pointer (some ⟨b,0,none⟩)],BitsA b l]) (c:=fun _=>True) t (fun _ ⟨b,h⟩=>⟨b,trivial,h⟩) fun b _=>h b
theorem PagesA.cl{p b:Nat}{l:List Bool}(h:HP)(H:star [blk p [.pointer (some ⟨b,0,none⟩)],BitsA b l] h):PagesA p l h:=⟨b,H⟩
def Sp.row(i k:Nat):List Int:=(List.range k).map fun j=>((i+j:Nat):Int)
def Sp.setR(l:List Bool)(is:Bool)(i k:Nat):List Bool:=Sp.setAll l is (Sp.row i k)
theorem Sp.setR_len{l:List Bool}{is:Bool}{i k:Nat}:(Sp.setR l is i k).length=l.length:=Sp.setAll_len
theorem Sp.row_len{i k:Nat}:(Sp.row i k).length=k:=by simp[Sp.row]
theorem Sp.row_ok{l:List Bool}{i k:Nat}(h:i+k≤l.length):Sp.setOk l (Sp.row i k)=true:=by
 unfold Sp.setOk Sp.row
 rw[List.all_eq_true]
 intro x hx
 simp at hx
 obtain⟨j,hj,rfl⟩:=hx
 simp;omega
theorem Sp.setAll_get{is:Bool}{xs:List Int}:∀{l:List Bool} {j:Nat},(∀x∈xs,0≤x)→j<l.length→(Sp.setAll l is xs).getD j false=if(j:Int)∈xs then is else l.getD j false:=by
 unfold Sp.setAll
 induction xs with
 |nil=>intro l j _ _;simp
 |cons x xs ih=>
  intro l j hx hj
  simp only[List.foldl_cons]
  rw[ih (fun y hy=>hx y (List.mem_cons_of_mem _ hy)) (by simpa using hj)]
  have h0:=hx x List.mem_cons_self
  by_cases h1:(j:Int)∈xs
  ·simp[h1]
  ·by_cases h2:(j:Int)=x
   ·subst h2
    simp[h1,List.getD_eq_getElem?_getD,hj]
   ·have:x.toNat≠j:=by omega
    simp[h1,h2,List.getD_eq_getElem?_getD,List.getElem?_set,this]
theorem Sp.setR_get{l:List Bool}{is:Bool}{i k j:Nat}(hj:j<l.length):(Sp.setR l is i k).getD j false=if i≤j∧j<i+k then is else l.getD j false:=by
 unfold Sp.setR
 rw[Sp.setAll_get (by intro x hx;simp[Sp.row]at hx;omega) hj]
 have:((j:Int)∈Sp.row i k)↔(i≤j∧j<i+k):=by
  simp only[Sp.row,List.mem_map,List.mem_range]
  constructor
  ·rintro⟨a,h1,h2⟩;omega
  ·intro h;exact⟨j-i,by omega,by omega⟩
 simp[this]
theorem appInt:appB Tryz.prog #[46,46] 1 8=true:=by kernel_rfl
theorem pages_row(i k:Nat)(hi:i+k<2^40):Spec ρ Tryz.prog 211 [i64 i,i64 k] [] (.one (.l .slice))
  fun r M=>r.n=k∧M=[SLc r 1 ((Sp.row i k).map i64)]:=by
 refine Spec.of (fun Q w h=>F.pages.row.calls i k h) fun R=> ?_
 unfold F.pages.row
 try simp only[lca,lna]
 refine Tr.nilSL 1 ?_
 refine en_lp (fun n s M=>(fun(s:Slc) (j:Int)=>M=SLc s 1 ((Sp.row i j.toNat).map i64)::R∧0≤j∧j≤k∧s.n=j.toNat∧n=k-j.toNat) s.1 s.2.1) k ?_ ?_
 ·exact⟨rfl,by simp,by dsimp only;omega,rfl,by simp⟩
 ·rintro n ⟨(s:Slc),(j:Int),⟨⟩⟩ M ⟨rfl,h0,h1,hn,rfl⟩ X hX
  dsimp only at*
  refine en_br (fun h=> ?_) (fun h=> ?_)
  ·replace h:j<(k:Int):=of_decide_eq_true h
   refine en_nw fun b=> ?_
   rw[wrap64 (by omega) (by omega),wrap64 (by omega) (by omega)]
   refine en_app (x:=⟨some ⟨b,0,none⟩,1,1⟩) (ys:=[i64 (i+j)]) appInt tk (Rd.cl tk rfl rfl) rfl (by rw[hn];dsimp only;omega) (by rw[hn];dsimp only;omega) fun r hr=> ?_
   have e:(Sp.row i j.toNat).map i64++[i64 (i+j)]=(Sp.row i (j+1).toNat).map i64:=by
    rw[show(j+1).toNat=j.toNat+1 by omega,Sp.row,Sp.row,List.range_succ]
    simp;omega
   rw[e]
   refine Tr.drop (A:=blk b [i64 (i+j)]) tk ?_
   exact hX (k-(j+1).toNat) _ _ (by omega) ⟨rfl,by dsimp only;omega,by dsimp only;omega,by dsimp only;rw[hr,hn];show _+1=_;omega,rfl⟩
  ·replace h:¬j<(k:Int):=of_decide_eq_false h
   have:j.toNat=k:=by omega
   rw[this]at hn⊢
   exact en_rets (x:=s) rfl ⟨hn,rfl⟩ tks ens
theorem Rd.one{b:Nat}{v:Value}(t:Take L (blk b [v]) L')(h:∀ρ',Le ρ ρ'→RoS ρ' ⟨some ⟨b,0,none⟩,1,1⟩ 1 [v]→Tr ρ0 ρ' L' T Post):Tr ρ0 ρ L T Post:=
 Tr.keep t fun ρ' ⟨ty,hr⟩ hle=>h ρ' hle ⟨rfl,.inr ⟨b,0,_,ty,_,rfl,hr,fun i hi=>by simp⟩⟩
theorem pages_new(n:Int)(h0:1≤n)(h1:n≤256):Spec ρ Tryz.prog 115 [i64 n] [] PE
  fun r M=>∃b,r=(some ⟨b,0,none⟩,0,())∧M=[PagesA b (true::List.replicate (n.toNat-1) false)]:=by
 refine Spec.of (fun Q w h=>F.pages.New.calls n h) fun R=> ?_
 unfold F.pages.New
 try simp only[lca,lna]
 refine en_brf (by simp;omega) (en_brf (by simp;omega) ?_)
 refine en_call (bits_new n (by omega) (by omega)) tks ?_
 rintro x M ⟨b,rfl,rfl⟩
 try simp only[lca,lna]
 refine en_brf rfl ?_
 refine en_nw fun b2=> ?_
 refine Rd.one tk fun ρ' hle hro=> ?_
 refine en_call (bits_set b (List.replicate n.toNat false) true ⟨some ⟨b2,0,none⟩,1,1⟩ [0] hro (by decide)) tks ?_
 rintro x M ⟨rfl,rfl⟩
 try simp only[lca,lna]
 have ok:Sp.setOk (List.replicate n.toNat false) [0]=true:=by simp[Sp.setOk];omega
 rw[if_pos ok]
 have e:Sp.setAll (List.replicate n.toNat false) true [0]=true::List.replicate (n.toNat-1) false:=by
  obtain⟨m,hm⟩:∃m,n.toNat=m+1:=⟨n.toNat-1,by omega⟩
  rw[hm];simp[Sp.setAll,List.replicate_succ]
 rw[e]
 refine en_nw fun b4=> ?_
 refine Tr.close (M:=[blk b4 [.pointer (some ⟨b,0,none⟩)],BitsA b (true::List.replicate (n.toNat-1) false)]) tks (PagesA.cl (p:=b4)) ?_
 exact en_rets (x:=(some ⟨b4,0,none⟩,0,())) rfl ⟨b4,rfl,rfl⟩ tks ens
theorem pages_take(p:Nat)(l:List Bool)(k:Nat)(hk:1≤k)(hk2:k<2^30)(hl:l.length≤256):Spec ρ Tryz.prog 216 [.pointer (some ⟨p,0,none⟩),i64 k] [PagesA p l] P2
  fun r M=>(Sp.run l k=none∧r=(0,3,())∧M=[PagesA p l])∨∃i,Sp.run l k=some i∧r=(((i:Nat):Int),0,())∧M=[PagesA p (Sp.setR l true i k)]:=by
 refine Spec.of (fun Q w h=>F.pages.Pages.Take.calls (some ⟨p,0,none⟩) k h) fun R=> ?_
 unfold F.pages.Pages.Take
 try simp only[lca,lna]
 refine en_brf rfl (en_brf (by simp;omega) (en_nn ?_))
 refine PagesA.op tk fun b=> ?_
 refine en_ld (k:= .ptr) (x:=some ⟨b,0,none⟩) (by rw[fa_mk]) tk rfl ?_
 refine en_call (bits_run b l k hk (by omega) (by omega)) tks ?_
 rintro x M ⟨rfl,rfl⟩
 try simp only[lca,lna]
 cases hr:Sp.run l k with
 |none=>
  refine en_brt rfl ?_
  refine Tr.close (M:=[blk p [.pointer (some ⟨b,0,none⟩)],BitsA b l]) tks (PagesA.cl (p:=p)) ?_
  exact en_rets (x:=(0,3,())) rfl (.inl ⟨rfl,rfl,rfl⟩) tks ens
 |some i=>
  have hi:=Sp.run_is hr
  refine en_brf (decide_eq_false (by simp only[Sp.oI];omega)) ?_
  refine en_drw (en_held [blk p [.pointer (some ⟨b,0,none⟩)]] tks ?_)
  refine en_nn (en_ldS (k:= .ptr) (x:=some ⟨b,0,none⟩) (by rw[fa_mk]) tk rfl ?_)
  simp only[Sp.oI]
  refine en_call (pages_row i k (by omega)) tks ?_
  rintro s M ⟨hs,rfl⟩
  try simp only[lca,lna]
  refine en_chk tks ?_
  refine Tr.keepSL (s:=s) tk fun ρ' hle hro=> ?_
  refine en_call (bits_set b l true s (Sp.row i k) hro (by rw[Sp.row_len];omega)) tks ?_
  rintro x M ⟨rfl,rfl⟩
  try simp only[lca,lna]
  rw[if_pos (Sp.row_ok hi.1)]
  refine Tr.close (M:=[blk p [.pointer (some ⟨b,0,none⟩)],BitsA b (Sp.setR l true i k)]) tks (PagesA.cl (p:=p)) ?_
  exact en_rets (x:=(((i:Nat):Int),0,())) rfl (.inr ⟨i,rfl,rfl,rfl⟩) tks ens
theorem pages_give(p:Nat)(l:List Bool)(i k:Nat)(hi:1≤i)(hk:1≤k)(hik:i+k≤l.length)(hl:l.length≤256)(hall:∀j,i≤j→j<i+k→l.getD j false=true):
  Spec ρ Tryz.prog 189 [.pointer (some ⟨p,0,none⟩),i64 i,i64 k] [PagesA p l] R1 fun r M=>r=0∧M=[PagesA p (Sp.setR l false i k)]:=by
 refine Spec.of (fun Q w h=>F.pages.Pages.Give.calls (some ⟨p,0,none⟩) i k h) fun R=> ?_
 unfold F.pages.Pages.Give
 try simp only[lca,lna]
 refine en_brf rfl (en_brf (by simp;omega) (en_brf (by simp;omega) (en_nn ?_)))
 refine PagesA.op tk fun b=> ?_
 refine en_ld (k:= .ptr) (x:=some ⟨b,0,none⟩) (by rw[fa_mk]) tk rfl ?_
 refine en_call (bits_size b l) tks ?_
 rintro x M ⟨rfl,rfl⟩
 try simp only[lca,lna]
 refine en_brf (by simp;omega) (en_nn ?_)
 refine en_ld (k:= .ptr) (x:=some ⟨b,0,none⟩) (by rw[fa_mk]) tk rfl ?_
 refine en_call (bits_size b l) tks ?_
 rintro x M ⟨rfl,rfl⟩
 try simp only[lca,lna]
 rw[wrap64 (by omega) (by omega),wrap64 (by omega) (by omega)]
 refine en_brf (by simp;omega) (en_nn ?_)
 refine en_ld (k:= .ptr) (x:=some ⟨b,0,none⟩) (by rw[fa_mk]) tk rfl ?_
 refine en_call (bits_next b l i false (by omega)) tks ?_
 rintro x M ⟨rfl,rfl⟩
 try simp only[lca,lna]
 have hn:Sp.next l i false= -1∨(i+k:Int)≤Sp.next l i false:=by
  rcases Sp.next_spec l false i with ⟨g1,g2⟩|⟨q,g1,g2,g3,g4,g5⟩
  ·exact .inl g1
  ·right
   rw[g1]
   rcases Nat.lt_or_ge q (i+k)with h|h
   ·rw[hall q g2 h]at g4;cases g4
   ·omega
 refine en_br (fun h=>en_brf (by simp at h⊢;omega) ?_) (fun h=> ?_)
 all_goals
  refine en_drw (en_held [blk p [.pointer (some ⟨b,0,none⟩)]] tks ?_)
  refine en_nn (en_ldS (k:= .ptr) (x:=some ⟨b,0,none⟩) (by rw[fa_mk]) tk rfl ?_)
  refine en_call (pages_row i k (by omega)) tks ?_
  rintro s M ⟨hs,rfl⟩
  try simp only[lca,lna]
  refine en_chk tks ?_
  refine Tr.keepSL (s:=s) tk fun ρ' hle hro=> ?_
  refine en_call (bits_set b l false s (Sp.row i k) hro (by rw[Sp.row_len];omega)) tks ?_
  rintro x M ⟨rfl,rfl⟩
  try simp only[lca,lna]
  rw[if_pos (Sp.row_ok hik),if_pos (Sp.row_ok hik)]
  refine Tr.close (M:=[blk p [.pointer (some ⟨b,0,none⟩)],BitsA b (Sp.setR l false i k)]) tks (PagesA.cl (p:=p)) ?_
  exact en_rets (x:=(0:Int)) rfl ⟨rfl,rfl⟩ tks ens
end Go.Proofs.YtfepdmpplahloaaGreat
