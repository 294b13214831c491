/- Arena Bits Low Mid. -/
import Derived.Test.YtfepdmpplahloaaGreatGsT
import Derived.Test.YtfepdmpplahloaaGreatGsOp
set_option linter.unusedSimpArgs false
set_option linter.unusedVariables false
namespace Go.Proofs.YtfepdmpplahloaaGreat
open Go Go.Gl
abbrev i64(n:Int):Value:= .int .i64 n
abbrev P2:RK:= .many [.l (.int .i64),.l (.int .i64)]
abbrev R1:RK:= .one (.l (.int .i64))
abbrev RB:RK:= .one (.l .bool)
def bE(p:Nat)(ws:List Int):aA:=fun h=>∃s:ay,s.n=ws.length∧star [aw p [.slice s.a s.n s.c],aE s 1 (ws.map i64)] h
variable{ρ0 ρ:FR}{L L':List aA}{Post:Value→List aA→Prop}{T:Tree}
theorem bE.op{p:Nat}{ws:List Int}(t:Take L (bE p ws) L')(h:∀s:ay,s.n=ws.length→Tr ρ0 ρ (aw p [.slice s.a s.n s.c]::aE s 1 (ws.map i64)::L') T Post):Tr ρ0 ρ L T Post:=
 Tr.gh (M:=fun s:ay=>[aw p [.slice s.a s.n s.c],aE s 1 (ws.map i64)]) t (fun _ h=>h) h
theorem bE.cl{p:Nat}{ws:List Int}{s:ay}(hs:s.n=ws.length)(h:HP)(H:star [aw p [.slice s.a s.n s.c],aE s 1 (ws.map i64)] h):bE p ws h:=⟨s,hs,H⟩
theorem re(p:Nat)(ws:List Int)(i:Int):Spec ρ Tryz.prog 138 [.pointer (some ⟨p,0,none⟩),i64 i] [bE p ws] RB
  fun r M=>r=decide (0≤i∧i<ws.length)∧M=[bE p ws]:=by
 refine Spec.of (fun Q w h=>F.cI.words.has.calls (some ⟨p,0,none⟩) i h) fun R=> ?_
 unfold F.cI.words.has
 try simp only[aq,al]
 refine aj (fun h=> ?_) (fun h=> ?_)
 ·refine ah ?_
  refine bE.op tk fun s hs=> ?_
  refine ai (by rw[af]) tk rfl ?_
  refine Tr.close ag (bE.cl (p:=p) (ws:=ws) hs) ?_
  refine aa (x:=decide (0≤i∧i<ws.length)) ?_ ⟨rfl,rfl⟩ ag aB
  simp at h
  simp[h,hs,RK.val,KD.val,LK.val]
 ·refine aa (x:=decide (0≤i∧i<ws.length)) ?_ ⟨rfl,rfl⟩ ag aB
  simp at h
  simp[RK.val,KD.val,LK.val];omega
theorem m7(p:Nat)(ws:List Int):Spec ρ Tryz.prog 108 [.pointer (some ⟨p,0,none⟩)] [bE p ws] R1
  fun r M=>r=ws.length∧M=[bE p ws]:=by
 refine Spec.of (fun Q w h=>F.cI.eD.Len.calls (some ⟨p,0,none⟩) h) fun R=> ?_
 unfold F.cI.eD.Len
 try simp only[aq,al]
 refine ak rfl (ah ?_)
 refine bE.op tk fun s hs=> ?_
 refine ai (by rw[af,af]) tk rfl ?_
 refine Tr.close ag (bE.cl (p:=p) (ws:=ws) hs) ?_
 rw[hs]
 exact aa (x:=((ws.length:Nat):Int)) rfl ⟨rfl,rfl⟩ ag aB
def Sp.load(ws:List Int)(i:Int):RT P2:=if 0≤i∧i<ws.length then(ws.getD i.toNat 0,0,())else(0,2,())
theorem getD_map{ws:List Int}{i:Nat}(h:i<ws.length):(ws.map i64)[i]? =some (i64 (ws.getD i 0)):=by
 simp[List.getD_eq_getElem?_getD,h]
theorem vV(p:Nat)(ws:List Int)(i:Int):Spec ρ Tryz.prog 103 [.pointer (some ⟨p,0,none⟩),i64 i] [bE p ws] P2
  fun r M=>r=Sp.load ws i∧M=[bE p ws]:=by
 refine Spec.of (fun Q w h=>F.cI.eD.CB.calls (some ⟨p,0,none⟩) i h) fun R=> ?_
 unfold F.cI.eD.CB
 try simp only[aq,al]
 refine ak rfl (ah ?_)
 rw[af]
 refine ae (re p ws i) ag ?_
 rintro x M ⟨rfl,rfl⟩
 try simp only[aq,al]
 refine aj (fun h=> ?_) (fun h=> ?_)
 ·refine aa (x:=Sp.load ws i) ?_ ⟨rfl,rfl⟩ ag aB
  simp only[Bool.not_eq_true',decide_eq_false_iff_not]at h
  rw[Sp.load,if_neg h];rfl
 ·simp only[Bool.not_eq_false',decide_eq_true_eq]at h
  refine ah (bE.op tk fun s hs=> ?_)
  refine ai (by rw[af,af]) tk rfl ?_
  refine cn tk h.1 (by rw[hs];exact h.2) fun a0 ha=> ?_
  refine cT (j:=i.toNat) ha tk (by rintro b o rfl;simp[af]) (getD_map (by omega)) ?_
  refine Tr.close ag (bE.cl (p:=p) (ws:=ws) hs) ?_
  refine aa (x:=Sp.load ws i) ?_ ⟨rfl,rfl⟩ ag aB
  rw[Sp.load,if_pos h];rfl
def Sp.lB(ws:List Int)(i:Int):Int:=if 0≤i∧i<ws.length then 0 else 2
def Sp.store(ws:List Int)(i x:Int):List Int:=if 0≤i∧i<ws.length then ws.set i.toNat x else ws
theorem um(p:Nat)(ws:List Int)(i x:Int):Spec ρ Tryz.prog 125 [.pointer (some ⟨p,0,none⟩),i64 i,i64 x] [bE p ws] R1
  fun r M=>r=Sp.lB ws i∧M=[bE p (Sp.store ws i x)]:=by
 refine Spec.of (fun Q w h=>F.cI.eD.wJ.calls (some ⟨p,0,none⟩) i x h) fun R=> ?_
 unfold F.cI.eD.wJ
 try simp only[aq,al]
 refine ak rfl (ah ?_)
 rw[af]
 refine ae (re p ws i) ag ?_
 rintro r M ⟨rfl,rfl⟩
 try simp only[aq,al]
 refine aj (fun h=> ?_) (fun h=> ?_)
 ·simp only[Bool.not_eq_true',decide_eq_false_iff_not]at h
  have e:Sp.store ws i x=ws:=by rw[Sp.store,if_neg h]
  rw[e]
  refine aa (x:=Sp.lB ws i) ?_ ⟨rfl,rfl⟩ ag aB
  rw[Sp.lB,if_neg h];rfl
 ·simp only[Bool.not_eq_false',decide_eq_true_eq]at h
  refine ah (bE.op tk fun s hs=> ?_)
  refine ai (by rw[af,af]) tk rfl ?_
  refine cn tk h.1 (by rw[hs];exact h.2) fun a0 ha=> ?_
  refine gu (j:=i.toNat) ha tk (by rintro b o rfl;simp[af]) (by simp;omega) rfl ?_
  have hm:bN (ws.map i64) i.toNat [i64 x]=(ws.set i.toNat x).map i64:=by simp[bN]
  rw[hm]
  refine Tr.close ag (bE.cl (p:=p) (ws:=ws.set i.toNat x) (by simpa using hs)) ?_
  have e:Sp.store ws i x=ws.set i.toNat x:=by rw[Sp.store,if_pos h]
  rw[e]
  refine aa (x:=Sp.lB ws i) ?_ ⟨rfl,rfl⟩ ag aB
  rw[Sp.lB,if_pos h];rfl
end Go.Proofs.YtfepdmpplahloaaGreat
namespace Go.Proofs.YtfepdmpplahloaaGreat
open Go Go.Gl
abbrev bv(b:Bool):Value:= .bool b
def aX(p:Nat)(l:List Bool):aA:=fun h=>∃s:ay,s.n=l.length∧star [aw p [.slice s.a s.n s.c],aE s 1 (l.map bv)] h
variable{ρ0 ρ:FR}{L L':List aA}{Post:Value→List aA→Prop}{T:Tree}
theorem aX.op{p:Nat}{l:List Bool}(t:Take L (aX p l) L')(h:∀s:ay,s.n=l.length→Tr ρ0 ρ (aw p [.slice s.a s.n s.c]::aE s 1 (l.map bv)::L') T Post):Tr ρ0 ρ L T Post:=
 Tr.gh (M:=fun s:ay=>[aw p [.slice s.a s.n s.c],aE s 1 (l.map bv)]) t (fun _ h=>h) h
theorem aX.cl{p:Nat}{l:List Bool}{s:ay}(hs:s.n=l.length)(h:HP)(H:star [aw p [.slice s.a s.n s.c],aE s 1 (l.map bv)] h):aX p l h:=⟨s,hs,H⟩
theorem rQ{l:List Bool}{i:Nat}(h:i<l.length):(l.map bv)[i]? =some (bv (l.getD i false)):=by
 simp[List.getD_eq_getElem?_getD,h]
theorem gD(p:Nat)(l:List Bool):Spec ρ Tryz.prog 135 [.pointer (some ⟨p,0,none⟩)] [aX p l] R1 fun r M=>r=l.length∧M=[aX p l]:=by
 refine Spec.of (fun Q w h=>F.bits.Bits.Bs.calls (some ⟨p,0,none⟩) h) fun R=> ?_
 unfold F.bits.Bits.Bs
 try simp only[aq,al]
 refine ak rfl (ah ?_)
 refine aX.op tk fun s hs=> ?_
 refine ai (by rw[af]) tk rfl ?_
 refine Tr.close ag (aX.cl (p:=p) (l:=l) hs) ?_
 rw[hs]
 exact aa (x:=((l.length:Nat):Int)) rfl ⟨rfl,rfl⟩ ag aB
theorem pD(p:Nat)(l:List Bool)(i:Int):Spec ρ Tryz.prog 140 [.pointer (some ⟨p,0,none⟩),i64 i] [aX p l] RB fun r M=>r=decide (0≤i∧i<l.length)∧M=[aX p l]:=by
 refine Spec.of (fun Q w h=>F.bits.Bits.place.calls (some ⟨p,0,none⟩) i h) fun R=> ?_
 unfold F.bits.Bits.place
 try simp only[aq,al]
 refine aj (fun h=> ?_) (fun h=> ?_)
 ·refine ae (gD p l) ag ?_
  rintro x M ⟨rfl,rfl⟩
  try simp only[aq,al]
  refine aa (x:=decide (0≤i∧i<l.length)) ?_ ⟨rfl,rfl⟩ ag aB
  simp at h
  simp[h,RK.val,KD.val,LK.val]
 ·refine aa (x:=decide (0≤i∧i<l.length)) ?_ ⟨rfl,rfl⟩ ag aB
  simp at h
  simp[RK.val,KD.val,LK.val];omega
def Sp.has(l:List Bool)(i:Int):Bool:=decide (0≤i)&&l.getD i.toNat false
theorem Sp.Cm{l:List Bool}{i:Int}(h:¬(0≤i∧i<l.length)):Sp.has l i=false:=by
 unfold Sp.has
 by_cases h0:0≤i
 ·have:l.length≤i.toNat:=by omega
  simp[List.getD_eq_getElem?_getD,List.getElem?_eq_none this]
 ·simp[h0]
theorem l4(p:Nat)(l:List Bool)(i:Int):Spec ρ Tryz.prog 109 [.pointer (some ⟨p,0,none⟩),i64 i] [aX p l] RB fun r M=>r=Sp.has l i∧M=[aX p l]:=by
 refine Spec.of (fun Q w h=>F.bits.Bits.Has.calls (some ⟨p,0,none⟩) i h) fun R=> ?_
 unfold F.bits.Bits.Has
 try simp only[aq,al]
 refine ae (pD p l i) ag ?_
 rintro x M ⟨rfl,rfl⟩
 try simp only[aq,al]
 refine aj (fun h=> ?_) (fun h=> ?_)
 ·simp only[decide_eq_true_eq]at h
  refine ah (aX.op tk fun s hs=> ?_)
  refine ai (by rw[af]) tk rfl ?_
  refine cn tk h.1 (by rw[hs];exact h.2) fun a0 ha=> ?_
  refine cT (j:=i.toNat) ha tk (by rintro b o rfl;simp[af]) (rQ (by omega)) ?_
  refine Tr.close ag (aX.cl (p:=p) (l:=l) hs) ?_
  refine aa (x:=Sp.has l i) ?_ ⟨rfl,rfl⟩ ag aB
  simp[Sp.has,h.1,RK.val,KD.val,LK.val]
 ·simp only[decide_eq_false_iff_not]at h
  refine aa (x:=Sp.has l i) ?_ ⟨rfl,rfl⟩ ag aB
  rw[Sp.Cm h];rfl
def Sp.nY(l:List Bool)(is:Bool):Nat→Nat→Int
 |0,_=> -1
 |n+1,i=>if i<l.length∧l.getD i false=is then i else Sp.nY l is n (i+1)
def Sp.next(l:List Bool)(start:Int)(is:Bool):Int:=Sp.nY l is (l.length-start.toNat) start.toNat
theorem eI(p:Nat)(l:List Bool)(start:Int)(is:Bool)(hl:l.length≤16384):Spec ρ Tryz.prog 100 [.pointer (some ⟨p,0,none⟩),i64 start,.bool is] [aX p l] R1
  fun r M=>r=Sp.next l start is∧M=[aX p l]:=by
 refine Spec.of (fun Q w h=>F.bits.Bits.Next.calls (some ⟨p,0,none⟩) start is h) fun R=> ?_
 unfold F.bits.Bits.Next
 try simp only[aq,al]
 refine aP (fun n s M=>(fun i:Int=>M=aX p l::R∧0≤i∧n=l.length-i.toNat∧Sp.nY l is n i.toNat=Sp.next l start is) s.1) (l.length-start.toNat) ?_ ?_
 ·have e:(if start>0 then start else 0).toNat=start.toNat:=by split<;>omega
  exact⟨rfl,by dsimp only;split<;>omega,by dsimp only;rw[e],by dsimp only;rw[e];rfl⟩
 ·rintro n ⟨(i:Int),⟨⟩⟩ M ⟨rfl,h0,rfl,hn⟩ X hX
  dsimp only at*
  refine ae (gD p l) ag ?_
  rintro x M ⟨rfl,rfl⟩
  try simp only[aq,al]
  refine aj (fun h=> ?_) (fun h=> ?_)
  ·replace h:i<(l.length:Int):=of_decide_eq_true h
   obtain⟨k,hk⟩:∃k,l.length-i.toNat=k+1:=⟨l.length-i.toNat-1,by omega⟩
   rw[hk]at hn hX
   unfold Sp.nY at hn
   refine ah (aX.op tk fun s hs=> ?_)
   refine ai (by rw[af]) tk rfl ?_
   refine cn tk h0 (by rw[hs];exact h) fun a0 ha=> ?_
   refine cT (j:=i.toNat) ha tk (by rintro b o rfl;simp[af]) (rQ (by omega)) ?_
   refine Tr.close ag (aX.cl (p:=p) (l:=l) hs) ?_
   refine aj (fun h2=> ?_) (fun h2=> ?_)
   ·rw[if_pos ⟨by omega,by simpa using h2⟩]at hn
    refine aa (x:=Sp.next l start is) ?_ ⟨rfl,rfl⟩ ag aB
    rw[←hn];simp[RK.val,KD.val,LK.val];omega
   ·rw[if_neg (by rintro⟨_,h3⟩;rw[h3]at h2;simp at h2)]at hn
    have hw:IntKind.wrap .i64 (i+1)=i+1:=wrap64 (by omega) (by omega)
    rw[hw]
    refine hX k _ _ (by omega) ⟨rfl,by dsimp only;omega,by dsimp only;omega,?_⟩
    rw[←hn]
    dsimp only
    congr 1
    omega
  ·replace h:¬i<(l.length:Int):=of_decide_eq_false h
   have hk:l.length-i.toNat=0:=by omega
   rw[hk]at hn
   unfold Sp.nY at hn
   refine aa (x:=Sp.next l start is) ?_ ⟨rfl,rfl⟩ ag aB
   rw[←hn];rfl
end Go.Proofs.YtfepdmpplahloaaGreat
namespace Go.Gl
open Go
variable{ρ0 ρ:FR}{L L':List aA}{Post:Value→List aA→Prop}
theorem gV{ρ':FR}(hle:Le ρ ρ'){M R:List aA}{T:Tree}(t:aI L M R)(h:Tr ρ0 ρ' L T Post):Tr ρ0 ρ' L (fX (Sat ρ M) T) Post:=fun h0 w hw=>
 ⟨(((hw.perm t.perm).perm List.perm_append_comm).ug).Dm hle,h h0 w hw⟩
theorem rM{xs vs:List Value}{j:Nat}(h:j+vs.length≤xs.length):bN xs j vs=xs.take j++(vs++xs.drop (j+vs.length)):=by
 have h1:xs=xs.take j++xs.drop j:=(List.take_append_drop j xs).symm
 have h2:(xs.take j).length=j:=by simp;omega
 have:=rq (xs:=xs.take j) (rest:=xs.drop j) (ys:=vs) (by simp;omega)
 rw[h2]at this
 conv=>lhs;rw[h1]
 rw[this];simp[List.append_assoc,List.drop_drop]
theorem p7(z:Value)(n:Nat):(Builtin.zeroCells #[z] n).toList=List.replicate n z:=by
 unfold Builtin.zeroCells
 apply List.ext_getElem
 ·simp
 ·intro i h1 h2
  simp[Nat.mod_one]
theorem yN{P:Program}{tt e ty:TypeId}{z zz:Value}{s:ay}{xs:List Value}{l n c:Nat}{a':Option Addr}{k:RT (.many [])→Tree}(hu:P.underlying tt=some (.slice e))
  (hi:(P.info? e).bind (·.zero)=some zz) (hz:zz.cells= #[z]) (h1:jX z=true) (t:Take L (aE s 1 xs) L') (hn:0<n) (hl:l+n≤s.n) (ha:a'=s.a.map fun b=>fa b (l*1))
  (h:Tr ρ0 ρ (aE s 1 (bN xs l (List.replicate n z))::L') (k ()) Post):
  Tr ρ0 ρ L (c9 P (Builtin.clear_ #[tt] ty #[.slice a' n c]) (.many []) k) Post:=by
 refine Tr.take t (gQ (fun r M=>M=aE s 1 (bN xs l (List.replicate n z))::L') (fun w hw=> ?_) (fun x M hM=>by subst hM;exact h))
 obtain⟨n,rfl⟩:∃k,n=k+1:=⟨n-1,by omega⟩
 rcases hw.sl with ⟨g1,g2,g3,g4,g5⟩|⟨b,off,pre,rest,g1,g2,g3,g4,g5,g6⟩
 ·omega
 have hst:=ly (P:=P) (vs:=List.replicate (n+1) z) (off:=off+l) g6 (by simp[h1]) (by simp;omega)
 refine⟨(),yC ⟨b,off+l,none⟩ 0 (List.replicate (n+1) z) w,_,?_,rfl,?_⟩
 rotate_left
 ·have hs:=oB (List.replicate (n+1) z) (off+l) 0 _ w g6
  have e2:bN (pre++(xs++rest)) (off+l+0) (List.replicate (n+1) z)=pre++(bN xs l (List.replicate (n+1) z)++rest):=by
   rw[Nat.add_zero,←g2];exact mz (by simp;omega)
  rw[e2]at hs
  exact Sat.imp (fun h hh=> .inr ⟨b,off,pre,rest,g1,g2,by rw[fO];exact g3,g4,g5,hh⟩) hs
 ·rw[ha,g1]
  simp only[Option.map_some,af,Nat.mul_one]
  unfold Builtin.clear_
  have a0:(#[.slice (some ⟨b,off+l,none⟩) (n+1) c]:Array Value)[0]? =some (.slice (some ⟨b,off+l,none⟩) (n+1) c):=rfl
  have t0:(#[tt]:Array TypeId)[0]? =some tt:=rfl
  simp only[a0,t0,Sem.run_bind,run_underlying hu,Result.andThen_ok,dX hi,hz,p7,hst,Sem.run_pure]
  rfl
end Go.Gl
namespace Go.Proofs.YtfepdmpplahloaaGreat
open Go Go.Gl
variable{ρ0 ρ:FR}{L L':List aA}{Post:Value→List aA→Prop}{T:Tree}
abbrev PE:RK:= .many [.l .ptr,.l (.int .i64)]
theorem EE(n:Nat)(v:Value):(List.replicate n [v]).flatten=List.replicate n v:=by
 induction n with
 |zero=>rfl
 |succ n ih=>simp[List.replicate_succ,ih]
theorem xz(n:Int)(h0:1≤n)(h1:n≤256):Spec ρ Tryz.prog 114 [i64 n] [] PE
  fun r M=>∃b,r=(some ⟨b,0,none⟩,0,())∧M=[bE b (List.replicate (n.toNat*64) 0)]:=by
 refine Spec.of (fun Q w h=>F.cI.dc.calls n h) fun R=> ?_
 unfold F.cI.dc
 try simp only[aq,al]
 refine ak (by simp;omega) (ak (by simp;omega) ?_)
 rw[wrap64 (by omega) (by omega)]
 refine y8 (e:=3) (m:=1) (bytes:=8) (z:= .int .i64 0) (by kernel_rfl) (by kernel_rfl) rfl (by omega) (by omega) (by omega) fun b=> ?_
 refine ax fun b2=> ?_
 have e:(List.replicate (n*64).toNat (Value.cells (.int .i64 0)).toList).flatten=(List.replicate (n.toNat*64) (0:Int)).map i64:=by
  rw[show(Value.cells (.int .i64 0)).toList=[i64 0]from rfl,EE]
  rw[List.map_replicate,show(n*64).toNat=n.toNat*64 by omega]
 rw[e]
 refine Tr.close (M:=[aw b2 [.slice (some ⟨b,0,none⟩) (n*64).toNat (n*64).toNat],aE ⟨some ⟨b,0,none⟩,(n*64).toNat,(n*64).toNat⟩ 1 ((List.replicate (n.toNat*64) (0:Int)).map i64)]) ag (bE.cl (p:=b2) (ws:=List.replicate (n.toNat*64) 0) (s:=⟨some ⟨b,0,none⟩,(n*64).toNat,(n*64).toNat⟩) (by simp only[List.length_replicate];omega)) ?_
 exact aa (x:=(some ⟨b2,0,none⟩,0,())) rfl ⟨b2,rfl,rfl⟩ ag aB
def Sp.eJ(ws:List Int)(i n:Nat):List Int:=ws.take i++(List.replicate n 0++ws.drop (i+n))
def Sp.yW(ws:List Int)(i n:Int):Prop:=0≤n∧0≤i∧n≤max 0 (ws.length-i)
instance (ws:List Int) (i n:Int):Decidable (Sp.yW ws i n):=by unfold Sp.yW;infer_instance
theorem vx(p:Nat)(ws:List Int)(i n:Int)(hl:ws.length≤16384)(hn:0<n)(hi:0≤i)(hw:i+n≤ws.length):Spec ρ Tryz.prog 196 [.pointer (some ⟨p,0,none⟩),i64 i,i64 n] [bE p ws] R1
  fun r M=>r=0∧M=[bE p (Sp.eJ ws i.toNat n.toNat)]:=by
 refine Spec.of (fun Q w h=>F.cI.eD.CW.calls (some ⟨p,0,none⟩) i n h) fun R=> ?_
 unfold F.cI.eD.CW
 try simp only[aq,al]
 refine ak rfl (ak (by simp;omega) (ak (by simp;omega) (ah ?_)))
 refine bE.op tk fun s hs=> ?_
 refine ai (by rw[af,af]) tk rfl ?_
 rw[wrap64 (by omega) (by omega)]
 refine ak (by simp;omega) (aH (by simp;omega) (ah ?_))
 refine ai (by rw[af,af]) tk rfl ?_
 rw[wrap64 (by omega) (by omega)]
 refine Tr.fD (s:=s) (m:=1) (xs:=ws.map i64) tk fun hlen hc=> ?_
 refine dR hi (by omega) (by omega) ?_
 dsimp only
 refine yN (e:=3) (zz:=i64 0) (z:=i64 0) (s:=s) (xs:=ws.map i64) (l:=i.toNat) (by kernel_rfl) (by kernel_rfl) rfl rfl tk (by omega) (by omega) (by rw[if_neg (by omega)]) ?_
 have e:bN (ws.map i64) i.toNat (List.replicate ((i+n).toNat-i.toNat) (i64 0))=(Sp.eJ ws i.toNat n.toNat).map i64:=by
  rw[rM (by simp;omega),Sp.eJ,show(i+n).toNat-i.toNat=n.toNat by omega]
  simp
 rw[e]
 refine Tr.close ag (bE.cl (p:=p) (ws:=Sp.eJ ws i.toNat n.toNat) (s:=s) (by simp[Sp.eJ];omega)) ?_
 exact aa (x:=(0:Int)) rfl ⟨rfl,rfl⟩ ag aB
theorem pj(n:Int)(h0:0≤n)(h1:n≤16384):Spec ρ Tryz.prog 153 [i64 n] [] PE
  fun r M=>∃b,r=(some ⟨b,0,none⟩,0,())∧M=[aX b (List.replicate n.toNat false)]:=by
 refine Spec.of (fun Q w h=>F.bits.dc.calls n h) fun R=> ?_
 unfold F.bits.dc
 try simp only[aq,al]
 refine ak (by simp;omega) (ak (by simp;omega) ?_)
 refine y8 (e:=4) (m:=1) (bytes:=1) (z:= .bool false) (by kernel_rfl) (by kernel_rfl) rfl (by omega) (by omega) (by omega) fun b=> ?_
 refine ax fun b2=> ?_
 have e:(List.replicate n.toNat (Value.cells (.bool false)).toList).flatten=(List.replicate n.toNat false).map bv:=by
  rw[show(Value.cells (.bool false)).toList=[bv false]from rfl,EE]
  simp
 rw[e]
 refine Tr.close (M:=[aw b2 [.slice (some ⟨b,0,none⟩) n.toNat n.toNat],aE ⟨some ⟨b,0,none⟩,n.toNat,n.toNat⟩ 1 ((List.replicate n.toNat false).map bv)]) ag (aX.cl (p:=b2) (l:=List.replicate n.toNat false) (s:=⟨some ⟨b,0,none⟩,n.toNat,n.toNat⟩) (by simp)) ?_
 exact aa (x:=(some ⟨b2,0,none⟩,0,())) rfl ⟨b2,rfl,rfl⟩ ag aB
theorem AB(s:ay)(xs:List Int)(hs:eX ρ s 1 (xs.map i64))(hl:xs.length<2^62){f:FuncId}{fn:Func}{c:Array Value}{A:List aA}{g:Int→Bool}(hf:Tryz.prog.funcs[f]? =some fn)(hb:fn.body.isSome=true)
  (hg:∀x,Spec ρ Tryz.prog f ([i64 x]++c.toList) A RB fun r M=>r=g x∧M=A):
  Spec ρ Tryz.prog 210 [.slice s.a s.n s.c,.func (.func f) #[] c] A R1 fun r M=>decide (0≤r)=xs.any g∧M=A:=by
 refine Spec.of (fun Q w h=>F.av.eK.calls s (.func (.func f) #[] c) h) fun R=> ?_
 unfold F.av.eK
 have hn:s.n=xs.length:=by have:=hs.1;simpa using this.symm
 refine aP (fun n u M=>(fun i:Int=>M=A++R∧0≤i∧i≤xs.length∧n=xs.length-i.toNat∧xs.any g=(xs.drop i.toNat).any g) u.1) xs.length ?_ ?_
 ·exact⟨rfl,by simp,by dsimp only;omega,by dsimp only;omega,by simp⟩
 ·rintro n ⟨(i:Int),⟨⟩⟩ M ⟨rfl,h0,h1,rfl,hn2⟩ X hX
  dsimp only at*
  refine aj (fun h=> ?_) (fun h=> ?_)
  ·replace h:i<(s.n:Int):=of_decide_eq_true h
   have hi:i.toNat<xs.length:=by omega
   refine bJ hs h0 h fun a0 ha=> ?_
   refine bZ (j:=i.toNat) (x:=xs.getD i.toNat 0) ha hs (by rintro b o rfl;simp[af]) (getD_map hi) ?_
   refine iS hf hb (hg _) (aI.app _ _) ?_
   rintro r M ⟨rfl,rfl⟩
   have hd:xs.drop i.toNat=xs.getD i.toNat 0::xs.drop (i.toNat+1):=by
    rw[List.drop_eq_getElem_cons hi];simp[List.getD_eq_getElem?_getD,hi]
   rw[hd,List.any_cons]at hn2
   refine aj (fun h2=> ?_) (fun h2=> ?_)
   ·refine aa (x:=i) rfl ⟨?_,rfl⟩ (aI.app _ _) .refl
    rw[hn2,h2];simp[h0]
   ·rw[wrap64 (by omega) (by omega)]
    refine hX (xs.length-(i+1).toNat) _ _ (by omega) ⟨rfl,by dsimp only;omega,by dsimp only;omega,rfl,?_⟩
    rw[hn2,h2,Bool.false_or]
    dsimp only;rw[show(i+1).toNat=i.toNat+1 by omega]
  ·replace h:¬i<(s.n:Int):=of_decide_eq_false h
   refine aa (x:=(-1:Int)) rfl ⟨?_,rfl⟩ (aI.app _ _) .refl
   rw[hn2,List.drop_eq_nil_of_le (by omega)];rfl
theorem qx(s:ay)(xs:List Int)(hs:eX ρ s 1 (xs.map i64))(hl:xs.length<2^62){f:FuncId}{fn:Func}{c:Array Value}{A:List aA}{g:Int→Bool}(hf:Tryz.prog.funcs[f]? =some fn)(hb:fn.body.isSome=true)
  (hg:∀x,Spec ρ Tryz.prog f ([i64 x]++c.toList) A RB fun r M=>r=g x∧M=A):
  Spec ρ Tryz.prog 192 [.slice s.a s.n s.c,.func (.func f) #[] c] A RB fun r M=>r=xs.any g∧M=A:=by
 refine Spec.of (fun Q w h=>F.av.gn.calls s (.func (.func f) #[] c) h) fun R=> ?_
 unfold F.av.gn
 refine ae (AB s xs hs hl hf hb hg) (aI.app _ _) ?_
 rintro r M ⟨hr,rfl⟩
 refine aa (x:=xs.any g) ?_ ⟨rfl,rfl⟩ (aI.app _ _) .refl
 rw[←hr];rfl
theorem yd(p b:Nat)(l:List Bool)(x:Int):Spec ρ Tryz.prog 193 ([i64 x]++[.pointer (some ⟨b,0,none⟩)]) [aw b [.pointer (some ⟨p,0,none⟩)],aX p l] RB
  fun r M=>r= !decide (0≤x∧x<l.length)∧M=[aw b [.pointer (some ⟨p,0,none⟩)],aX p l]:=by
 refine Spec.of (fun Q w h=>F.bits.Bits.wu.calls x (some ⟨b,0,none⟩) h) fun R=> ?_
 unfold F.bits.Bits.wu
 try simp only[aq,al]
 refine ah (ai (k:= .ptr) (x:=some ⟨p,0,none⟩) rfl tk rfl ?_)
 refine ae (pD p l x) ag ?_
 rintro r M ⟨rfl,rfl⟩
 try simp only[aq,al]
 exact aa (x:= !decide (0≤x∧x<l.length)) rfl ⟨rfl,rfl⟩ ag aB
def Sp.gi(l:List Bool)(xs:List Int):Bool:=xs.all fun i=>decide (0≤i∧i<l.length)
def Sp.dr(l:List Bool)(is:Bool)(xs:List Int):List Bool:=xs.foldl (fun l i=>l.set i.toNat is) l
theorem Sp.jH{l:List Bool}{is:Bool}{xs:List Int}:(Sp.dr l is xs).length=l.length:=by
 unfold Sp.dr
 induction xs generalizing l with
 |nil=>rfl
 |cons x xs ih=>simp only[List.foldl_cons];rw[ih];simp
theorem jc(p:Nat)(l:List Bool)(is:Bool)(s:ay)(xs:List Int)(hs:eX ρ s 1 (xs.map i64))(hl:xs.length<2^62):
  Spec ρ Tryz.prog 154 [.pointer (some ⟨p,0,none⟩),.bool is,.slice s.a s.n s.c] [aX p l] R1
  fun r M=>r=(if Sp.gi l xs then 0 else 2)∧M=[aX p (if Sp.gi l xs then Sp.dr l is xs else l)]:=by
 refine Spec.of (fun Q w h=>F.bits.Bits.Set.calls (some ⟨p,0,none⟩) is s h) fun R=> ?_
 unfold F.bits.Bits.Set
 try simp only[aq,al]
 have hn:s.n=xs.length:=by have:=hs.1;simpa using this.symm
 refine ax fun b=> ?_
 refine ai (k:= .ptr) (x:=some ⟨p,0,none⟩) rfl tk rfl (ak rfl ?_)
 refine ae (qx s xs hs hl (c:= #[.pointer (some ⟨b,0,none⟩)]) (f:=193) (fn:=Tryz.f193) Tryz.func193 (by kernel_rfl) fun x=>yd p b l x) ag ?_
 rintro r M ⟨rfl,rfl⟩
 try simp only[aq,al]
 have hok:(xs.any fun x=> !decide (0≤x∧x<l.length))= !Sp.gi l xs:=by
  unfold Sp.gi;rw[List.not_all_eq_any_not]
 refine aj (fun h=> ?_) (fun h=> ?_)
 ·rw[hok]at h
  have h':¬Sp.gi l xs=true:=by simpa using h
  rw[if_neg h',if_neg h']
  exact aa (x:=(2:Int)) rfl ⟨rfl,rfl⟩ ag aB
 ·rw[hok]at h
  have h':Sp.gi l xs=true:=by simpa using h
  rw[if_pos h',if_pos h']
  refine Tr.take (A:=aX p l) tk ?_
  refine aP (fun n u M=>(fun i:Int=>M=aX p (Sp.dr l is (xs.take i.toNat))::aw b [.pointer (some ⟨p,0,none⟩)]::R∧0≤i∧i≤xs.length∧n=xs.length-i.toNat) u.1) xs.length ?_ ?_
  ·exact⟨rfl,by simp,by dsimp only;omega,by dsimp only;omega⟩
  ·rintro n ⟨(i:Int),⟨⟩⟩ M ⟨rfl,h0,h1,rfl⟩ X hX
   dsimp only at*
   refine aj (fun h=> ?_) (fun h=> ?_)
   ·replace h:i<(s.n:Int):=of_decide_eq_true h
    have hi:i.toNat<xs.length:=by omega
    refine bJ hs h0 h fun a0 ha=> ?_
    refine bZ (j:=i.toNat) (x:=xs.getD i.toNat 0) ha hs (by rintro b o rfl;simp[af]) (getD_map hi) ?_
    refine ai (k:= .ptr) (x:=some ⟨p,0,none⟩) rfl tk rfl (ah ?_)
    have hx:0≤xs.getD i.toNat 0∧xs.getD i.toNat 0<l.length:=by
     have:=(List.all_eq_true.mp h') (xs.getD i.toNat 0) (by simp[List.getD_eq_getElem?_getD,hi])
     simpa using this
    refine aX.op tk fun s2 hs2=> ?_
    rw[Sp.jH]at hs2
    refine ai (by rw[af]) tk rfl ?_
    refine cn tk hx.1 (by rw[hs2];exact hx.2) fun a1 ha1=> ?_
    refine gu (j:=(xs.getD i.toNat 0).toNat) ha1 tk (by rintro b o rfl;simp[af]) (by simp only[List.length_map,Sp.jH,List.length_singleton];omega) rfl ?_
    have hm:bN ((Sp.dr l is (xs.take i.toNat)).map bv) (xs.getD i.toNat 0).toNat [bv is]=(Sp.dr l is (xs.take (i.toNat+1))).map bv:=by
     have:xs.take (i.toNat+1)=xs.take i.toNat++[xs.getD i.toNat 0]:=by
      rw[List.take_add_one];simp[List.getD_eq_getElem?_getD,hi]
     rw[this];simp[bN,Sp.dr,List.foldl_append]
    rw[hm]
    refine Tr.close ag (aX.cl (p:=p) (l:=Sp.dr l is (xs.take (i.toNat+1))) (by rw[Sp.jH];exact hs2)) ?_
    rw[wrap64 (by omega) (by omega)]
    have e:(i+1).toNat=i.toNat+1:=by omega
    exact hX (xs.length-(i+1).toNat) _ _ (by omega) ⟨by dsimp only;rw[e],by dsimp only;omega,by dsimp only;omega,rfl⟩
   ·replace h:¬i<(s.n:Int):=of_decide_eq_false h
    rw[List.take_of_length_le (by omega)]
    exact aa (x:=(0:Int)) rfl ⟨rfl,rfl⟩ ag aB
end Go.Proofs.YtfepdmpplahloaaGreat
namespace Go.Proofs.YtfepdmpplahloaaGreat
open Go Go.Gl
variable{ρ0 ρ:FR}{L L':List aA}{Post:Value→List aA→Prop}{T:Tree}
theorem Sp.vR(l:List Bool)(is:Bool):∀n i,n=l.length-i→
  (Sp.nY l is n i= -1∧∀j,i≤j→j<l.length→l.getD j false≠is)∨
  ∃k:Nat,Sp.nY l is n i=k∧i≤k∧k<l.length∧l.getD k false=is∧∀j,i≤j→j<k→l.getD j false≠is:=by
 intro n
 induction n with
 |zero=>intro i h;exact .inl ⟨rfl,fun j h1 h2=>by omega⟩
 |succ n ih=>
  intro i h
  unfold Sp.nY
  by_cases hc:i<l.length∧l.getD i false=is
  ·rw[if_pos hc]
   exact .inr ⟨i,rfl,Nat.le_refl _,hc.1,hc.2,fun j h1 h2=>by omega⟩
  ·rw[if_neg hc]
   have h0:l.getD i false≠is:=fun h'=>hc ⟨by omega,h'⟩
   rcases ih (i+1) (by omega)with ⟨h1,h2⟩|⟨k,h1,h2,h3,h4,h5⟩
   ·refine .inl ⟨h1,fun j hj hl=> ?_⟩
    rcases Nat.lt_or_ge i j with h|h
    ·exact h2 j h hl
    ·have:j=i:=by omega
     subst this;exact h0
   ·refine .inr ⟨k,h1,by omega,h3,h4,fun j hj hl=> ?_⟩
    rcases Nat.lt_or_ge i j with h|h
    ·exact h5 j h hl
    ·have:j=i:=by omega
     subst this;exact h0
theorem Sp.ft(l:List Bool)(is:Bool)(i:Nat):
  (Sp.next l i is= -1∧∀j,i≤j→j<l.length→l.getD j false≠is)∨
  ∃k:Nat,Sp.next l i is=k∧i≤k∧k<l.length∧l.getD k false=is∧∀j,i≤j→j<k→l.getD j false≠is:=by
 have:=Sp.vR l is (l.length-i) i rfl
 simpa[Sp.next]using this
def Sp.dZ(l:List Bool)(i k:Nat):Bool:=(List.range k).all fun j=> !l.getD (i+j) false
theorem Sp.eB{l:List Bool}{i k:Nat}:Sp.dZ l i k=true↔∀j,i≤j→j<i+k→l.getD j false=false:=by
 unfold Sp.dZ
 rw[List.all_eq_true]
 constructor
 ·intro h j h1 h2
  have:=h (j-i) (by simp;omega)
  rw[show i+(j-i)=j by omega]at this
  simpa using this
 ·intro h j hj
  simp at hj
  have:=h (i+j) (by omega) (by omega)
  rw[this];rfl
def Sp.run(l:List Bool)(k:Nat):Option Nat:=(List.range (l.length+1-k)).find? fun i=>Sp.dZ l i k
def Sp.oI:Option Nat→Int|some i=>i|none=> -1
theorem Sp.ud{l:List Bool}{k i:Nat}(h1:i+k≤l.length)(h2:Sp.dZ l i k=true)(h3:∀j,j<i→Sp.dZ l j k=false):Sp.run l k=some i:=by
 unfold Sp.run
 rw[List.find?_range_eq_some]
 exact⟨h2,by simp;omega,fun j hj=>by simp[h3 j hj]⟩
theorem Sp.Bf{l:List Bool}{k:Nat}(h3:∀j,j+k≤l.length→Sp.dZ l j k=false):Sp.run l k=none:=by
 unfold Sp.run
 rw[List.find?_range_eq_none]
 intro j hj
 simp[h3 j (by omega)]
theorem Sp.zb{l:List Bool}{k i:Nat}(h:Sp.run l k=some i):i+k≤l.length∧Sp.dZ l i k=true∧∀j,j<i→Sp.dZ l j k=false:=by
 unfold Sp.run at h
 rw[List.find?_range_eq_some]at h
 obtain⟨h1,h2,h3⟩:=h
 simp at h2
 exact⟨by omega,h1,fun j hj=>by simpa using h3 j hj⟩
theorem Al(p:Nat)(l:List Bool)(k:Nat)(hk:1≤k)(hk2:k<2^62)(hl:l.length≤16384):Spec ρ Tryz.prog 224 [.pointer (some ⟨p,0,none⟩),i64 0,i64 k] [aX p l] R1
  fun r M=>r=Sp.oI (Sp.run l k)∧M=[aX p l]:=by
 refine Spec.of (fun Q w h=>F.bits.Bits.Et.calls (some ⟨p,0,none⟩) 0 k h) fun R=> ?_
 unfold F.bits.Bits.Et
 try simp only[aq,al]
 refine ak (by simp;omega) ?_
 refine aP (fun n s M=>(fun f i:Int=>M=aX p l::R∧0≤f∧f≤i∧f<k∧i≤l.length∧n=l.length-i.toNat∧(∀j:Nat,i-f≤j→j<i→l.getD j false=false)∧
   (f<i→l.getD (i-f-1).toNat false=true)∧∀j:Nat,j+k≤i→Sp.dZ l j k=false) s.1 s.2.1) l.length ?_ ?_
 ·refine⟨rfl,by simp,by simp,by simp;omega,by simp,by simp,?_,by simp,?_⟩
  ·intro j h1 h2;dsimp only at*;simp at h2;omega
  ·intro j h2;dsimp only at*;simp at h2;omega
 ·rintro n ⟨(f:Int),(i:Int),⟨⟩⟩ M ⟨rfl,h0,h1,h2,h3,rfl,h4,h5,h6⟩ X hX
  dsimp only at*
  refine ae (gD p l) ag ?_
  rintro x M ⟨rfl,rfl⟩
  try simp only[aq,al]
  refine aj (fun h=> ?_) (fun h=> ?_)
  ·replace h:i<(l.length:Int):=of_decide_eq_true h
   refine ah (aX.op tk fun s hs=> ?_)
   refine ai (by rw[af]) tk rfl ?_
   refine cn tk (by omega) (by rw[hs];exact h) fun a0 ha=> ?_
   refine cT (j:=i.toNat) ha tk (by rintro b o rfl;simp[af]) (rQ (by omega)) ?_
   refine Tr.close ag (aX.cl (p:=p) (l:=l) hs) ?_
   have w1:IntKind.wrap .i64 (i+1)=i+1:=wrap64 (by omega) (by omega)
   have w2:IntKind.wrap .i64 (f+1)=f+1:=wrap64 (by omega) (by omega)
   rw[w1,w2]
   refine aj (fun hb=> ?_) (fun hb=> ?_)
   ·refine ak (by simp;omega) ?_
    refine hX (l.length-(i+1).toNat) _ _ (by omega) ⟨rfl,by dsimp only;omega,by dsimp only;omega,by dsimp only;omega,by dsimp only;omega,rfl,?_,?_,?_⟩
    ·intro j g1 g2;dsimp only at*;omega
    ·intro _;dsimp only;rw[show(i+1-0-1).toNat=i.toNat by omega];exact hb
    ·intro j hj;dsimp only at*
     rcases Int.lt_or_le i (j+k)with g|g
     ·cases hc:Sp.dZ l j k with
      |false=>rfl
      |true=>
       have:=Sp.eB.mp hc i.toNat (by omega) (by omega)
       rw[hb]at this;cases this
     ·exact h6 j g
   ·have hall:∀j:Nat,i-f≤j→j<i+1→l.getD j false=false:=fun j g1 g2=>by
     rcases Int.lt_or_le j i with g|g
     ·exact h4 j g1 g
     ·rw[show j=i.toNat by omega];exact hb
    refine aj (fun hf=> ?_) (fun hf=> ?_)
    ·replace hf:f+1=k:=by simpa using hf
     have hw:IntKind.wrap .i64 (i+1-k)=i+1-k:=wrap64 (by omega) (by omega)
     rw[hw]
     have hr:Sp.run l k=some (i+1-k).toNat:=by
      refine Sp.ud (by omega) (Sp.eB.mpr fun j g1 g2=>hall j (by omega) (by omega)) fun j hj=>h6 j (by omega)
     rw[hr]
     refine aa (x:=Sp.oI (some (i+1-k).toNat)) ?_ ⟨rfl,rfl⟩ ag aB
     simp[Sp.oI,RK.val,KD.val,LK.val];omega
    ·replace hf:¬f+1=k:=by simpa using hf
     refine hX (l.length-(i+1).toNat) _ _ (by omega) ⟨rfl,by dsimp only;omega,by dsimp only;omega,by dsimp only;omega,by dsimp only;omega,rfl,?_,?_,?_⟩
     ·intro j g1 g2;dsimp only at*;exact hall j (by omega) g2
     ·intro g;dsimp only at*;rw[show(i+1-(f+1)-1).toNat=(i-f-1).toNat by omega];exact h5 (by omega)
     ·intro j hj;dsimp only at*
      rcases Int.lt_or_le i (j+k)with g|g
      ·cases hc:Sp.dZ l j k with
       |false=>rfl
       |true=>
        have:=Sp.eB.mp hc (i-f-1).toNat (by omega) (by omega)
        rw[h5 (by omega)]at this;cases this
      ·exact h6 j g
  ·replace h:¬i<(l.length:Int):=of_decide_eq_false h
   have hr:Sp.run l k=none:=Sp.Bf fun j hj=>h6 j (by omega)
   rw[hr]
   exact aa (x:=Sp.oI none) rfl ⟨rfl,rfl⟩ ag aB
theorem aJ{α:Type}{l:List α}{k:Nat}(d:α)(h:k<l.length):l.take (k+1)=l.take k++[l.getD k d]:=by
 rw[List.take_add_one];simp[List.getD_eq_getElem?_getD,h]
theorem vo{l:List Bool}{q k:Nat}(hq:q≤k)(hk:k<l.length)(h1:l.getD k false=true)(h2:∀j,q≤j→j<k→l.getD j false≠true):(l.take (k+1)).count true=(l.take q).count true+1:=by
 induction k with
 |zero=>
  have:q=0:=by omega
  subst this
  cases l with
  |nil=>simp at hk
  |cons a l=>simp at h1;simp[h1]
 |succ k ih=>
  have e1:l.take (k+1+1)=l.take (k+1)++[true]:=by
   rw[aJ false hk,h1]
  rw[e1,List.count_append]
  simp only[List.count_singleton_self,Nat.add_right_cancel_iff]
  rcases Nat.lt_or_ge q (k+1)with g|g
  ·clear ih h1 e1
   have key:∀d,q+d≤k+1→(l.take (q+d)).count true=(l.take q).count true:=by
    intro d
    induction d with
    |zero=>intro _;rfl
    |succ d ih=>
     intro hd
     have e1:l.take (q+d+1)=l.take (q+d)++[false]:=by
      have:=h2 (q+d) (by omega) (by omega)
      have hl:q+d<l.length:=by omega
      rw[aJ false hl,show l.getD (q+d) false=false by cases h:l.getD (q+d) false<;>simp_all]
     rw[show q+(d+1)=q+d+1 by omega,e1,List.count_append,ih (by omega)];rfl
   have:=key (k+1-q) (by omega)
   rw[←this];congr 2;omega
  ·rw[show q=k+1 by omega]
theorem vG{l:List Bool}{q:Nat}(h2:∀j,q≤j→j<l.length→l.getD j false≠true):(l.take q).count true=l.count true:=by
 conv=>rhs;rw[←List.take_append_drop q l]
 rw[List.count_append]
 have:(l.drop q).count true=0:=by
  rw[List.count_eq_zero]
  intro hm
  obtain⟨j,hj,e⟩:=List.getElem_of_mem hm
  simp at hj e
  refine h2 (q+j) (by omega) (by omega) ?_
  have hl:q+j<l.length:=by omega
  simp[List.getD_eq_getElem?_getD,hl,e]
 omega
theorem qh(p:Nat)(l:List Bool)(hl:l.length≤16384):Spec ρ Tryz.prog 212 [.pointer (some ⟨p,0,none⟩)] [aX p l] R1
  fun r M=>r=(l.count true:Nat)∧M=[aX p l]:=by
 refine Spec.of (fun Q w h=>F.bits.Bits.Count.calls (some ⟨p,0,none⟩) h) fun R=> ?_
 unfold F.bits.Bits.Count
 try simp only[aq,al]
 refine ae (eI p l 0 true hl) ag ?_
 rintro x M ⟨rfl,rfl⟩
 try simp only[aq,al]
 have hcl:∀q,(l.take q).count true≤l.length:=fun q=>Nat.le_trans List.count_le_length (by simp;omega)
 refine aP (fun n s M=>(fun c i:Int=>M=aX p l::R∧∃q:Nat,n=l.length-q∧i=Sp.next l q true∧c=((l.take q).count true:Nat)) s.1 s.2.1) l.length ?_ ?_
 ·exact⟨rfl,0,by simp,rfl,by simp⟩
 ·rintro n ⟨(c:Int),(i:Int),⟨⟩⟩ M ⟨rfl,q,rfl,hi,hc⟩ X hX
  dsimp only at*
  refine aj (fun h=> ?_) (fun h=> ?_)
  ·replace h:i≥0:=of_decide_eq_true h
   rcases Sp.ft l true q with ⟨g1,g2⟩|⟨k,g1,g2,g3,g4,g5⟩
   ·omega
   ·rw[g1]at hi
    subst hi
    have w1:IntKind.wrap .i64 ((k:Int)+1)=((k+1:Nat):Int):=by rw[wrap64 (by omega) (by omega)];simp
    rw[w1]
    refine ae (eI p l ((k+1:Nat):Int) true hl) ag ?_
    rintro x M ⟨rfl,rfl⟩
    try simp only[aq,al]
    have:=hcl q
    have w2:IntKind.wrap .i64 (c+1)=c+1:=wrap64 (by omega) (by omega)
    rw[w2]
    refine hX (l.length-(k+1)) _ _ (by omega) ⟨rfl,k+1,rfl,rfl,?_⟩
    have e:=vo g2 g3 g4 g5
    dsimp only;rw[e,hc];simp
  ·replace h:¬i≥0:=of_decide_eq_false h
   rcases Sp.ft l true q with ⟨g1,g2⟩|⟨k,g1,g2,g3,g4,g5⟩
   ·rw[vG g2]at hc
    rw[hc]
    exact aa (x:=((l.count true:Nat):Int)) rfl ⟨rfl,rfl⟩ ag aB
   ·omega
def cc(p:Nat)(l:List Bool):aA:=fun h=>∃b:Nat,star [aw p [.pointer (some ⟨b,0,none⟩)],aX b l] h
theorem cc.op{p:Nat}{l:List Bool}(t:Take L (cc p l) L')(h:∀b:Nat,Tr ρ0 ρ (aw p [.pointer (some ⟨b,0,none⟩)]::aX b l::L') T Post):Tr ρ0 ρ L T Post:=
 Tr.gh (M:=fun b:Nat=>[aw p [.pointer (some ⟨b,0,none⟩)],aX b l]) (c:=fun _=>True) t (fun _ ⟨b,h⟩=>⟨b,trivial,h⟩) fun b _=>h b
theorem cc.cl{p b:Nat}{l:List Bool}(h:HP)(H:star [aw p [.pointer (some ⟨b,0,none⟩)],aX b l] h):cc p l h:=⟨b,H⟩
def Sp.row(i k:Nat):List Int:=(List.range k).map fun j=>((i+j:Nat):Int)
def Sp.oq(l:List Bool)(is:Bool)(i k:Nat):List Bool:=Sp.dr l is (Sp.row i k)
theorem Sp.mB{l:List Bool}{is:Bool}{i k:Nat}:(Sp.oq l is i k).length=l.length:=Sp.jH
theorem Sp.wm{i k:Nat}:(Sp.row i k).length=k:=by simp[Sp.row]
theorem Sp.vY{l:List Bool}{i k:Nat}(h:i+k≤l.length):Sp.gi l (Sp.row i k)=true:=by
 unfold Sp.gi Sp.row
 rw[List.all_eq_true]
 intro x hx
 simp at hx
 obtain⟨j,hj,rfl⟩:=hx
 simp;omega
theorem Sp.v8{is:Bool}{xs:List Int}:∀{l:List Bool} {j:Nat},(∀x∈xs,0≤x)→j<l.length→(Sp.dr l is xs).getD j false=if(j:Int)∈xs then is else l.getD j false:=by
 unfold Sp.dr
 induction xs with
 |nil=>intro l j _ _;simp
 |cons x xs ih=>
  intro l j hx hj
  simp only[List.foldl_cons]
  rw[ih (fun y hy=>hx y (List.mem_cons_of_mem _ hy)) (by simpa using hj)]
  have h0:=hx x List.mem_cons_self
  by_cases h1:(j:Int)∈xs
  ·simp[h1]
  ·by_cases h2:(j:Int)=x
   ·subst h2
    simp[h1,List.getD_eq_getElem?_getD,hj]
   ·have:x.toNat≠j:=by omega
    simp[h1,h2,List.getD_eq_getElem?_getD,List.getElem?_set,this]
theorem Sp.mG{l:List Bool}{is:Bool}{i k j:Nat}(hj:j<l.length):(Sp.oq l is i k).getD j false=if i≤j∧j<i+k then is else l.getD j false:=by
 unfold Sp.oq
 rw[Sp.v8 (by intro x hx;simp[Sp.row]at hx;omega) hj]
 have:((j:Int)∈Sp.row i k)↔(i≤j∧j<i+k):=by
  simp only[Sp.row,List.mem_map,List.mem_range]
  constructor
  ·rintro⟨a,h1,h2⟩;omega
  ·intro h;exact⟨j-i,by omega,by omega⟩
 simp[this]
theorem ca:lU Tryz.prog #[46,46] 1 8=true:=by kernel_rfl
theorem qU(i k:Nat)(hi:i+k<2^40):Spec ρ Tryz.prog 211 [i64 i,i64 k] [] (.one (.l .slice))
  fun r M=>r.n=k∧M=[aE r 1 ((Sp.row i k).map i64)]:=by
 refine Spec.of (fun Q w h=>F.dj.row.calls i k h) fun R=> ?_
 unfold F.dj.row
 try simp only[aq,al]
 refine Tr.cq 1 ?_
 refine aP (fun n s M=>(fun(s:ay) (j:Int)=>M=aE s 1 ((Sp.row i j.toNat).map i64)::R∧0≤j∧j≤k∧s.n=j.toNat∧n=k-j.toNat) s.1 s.2.1) k ?_ ?_
 ·exact⟨rfl,by simp,by dsimp only;omega,rfl,by simp⟩
 ·rintro n ⟨(s:ay),(j:Int),⟨⟩⟩ M ⟨rfl,h0,h1,hn,rfl⟩ X hX
  dsimp only at*
  refine aj (fun h=> ?_) (fun h=> ?_)
  ·replace h:j<(k:Int):=of_decide_eq_true h
   refine ax fun b=> ?_
   rw[wrap64 (by omega) (by omega),wrap64 (by omega) (by omega)]
   refine df (x:=⟨some ⟨b,0,none⟩,1,1⟩) (ys:=[i64 (i+j)]) ca tk (Rd.cl tk rfl rfl) rfl (by rw[hn];dsimp only;omega) (by rw[hn];dsimp only;omega) fun r hr=> ?_
   have e:(Sp.row i j.toNat).map i64++[i64 (i+j)]=(Sp.row i (j+1).toNat).map i64:=by
    rw[show(j+1).toNat=j.toNat+1 by omega,Sp.row,Sp.row,List.range_succ]
    simp;omega
   rw[e]
   refine Tr.drop (A:=aw b [i64 (i+j)]) tk ?_
   exact hX (k-(j+1).toNat) _ _ (by omega) ⟨rfl,by dsimp only;omega,by dsimp only;omega,by dsimp only;rw[hr,hn];show _+1=_;omega,rfl⟩
  ·replace h:¬j<(k:Int):=of_decide_eq_false h
   have:j.toNat=k:=by omega
   rw[this]at hn⊢
   exact aa (x:=s) rfl ⟨hn,rfl⟩ ag aB
theorem Rd.one{b:Nat}{v:Value}(t:Take L (aw b [v]) L')(h:∀ρ',Le ρ ρ'→eX ρ' ⟨some ⟨b,0,none⟩,1,1⟩ 1 [v]→Tr ρ0 ρ' L' T Post):Tr ρ0 ρ L T Post:=
 Tr.fv t fun ρ' ⟨ty,hr⟩ hle=>h ρ' hle ⟨rfl,.inr ⟨b,0,_,ty,_,rfl,hr,fun i hi=>by simp⟩⟩
theorem xV(n:Int)(h0:1≤n)(h1:n≤256):Spec ρ Tryz.prog 115 [i64 n] [] PE
  fun r M=>∃b,r=(some ⟨b,0,none⟩,0,())∧M=[cc b (true::List.replicate (n.toNat-1) false)]:=by
 refine Spec.of (fun Q w h=>F.dj.dc.calls n h) fun R=> ?_
 unfold F.dj.dc
 try simp only[aq,al]
 refine ak (by simp;omega) (ak (by simp;omega) ?_)
 refine ae (pj n (by omega) (by omega)) ag ?_
 rintro x M ⟨b,rfl,rfl⟩
 try simp only[aq,al]
 refine ak rfl ?_
 refine ax fun b2=> ?_
 refine Rd.one tk fun ρ' hle hro=> ?_
 refine ae (jc b (List.replicate n.toNat false) true ⟨some ⟨b2,0,none⟩,1,1⟩ [0] hro (by decide)) ag ?_
 rintro x M ⟨rfl,rfl⟩
 try simp only[aq,al]
 have ok:Sp.gi (List.replicate n.toNat false) [0]=true:=by simp[Sp.gi];omega
 rw[if_pos ok]
 have e:Sp.dr (List.replicate n.toNat false) true [0]=true::List.replicate (n.toNat-1) false:=by
  obtain⟨m,hm⟩:∃m,n.toNat=m+1:=⟨n.toNat-1,by omega⟩
  rw[hm];simp[Sp.dr,List.replicate_succ]
 rw[e]
 refine ax fun b4=> ?_
 refine Tr.close (M:=[aw b4 [.pointer (some ⟨b,0,none⟩)],aX b (true::List.replicate (n.toNat-1) false)]) ag (cc.cl (p:=b4)) ?_
 exact aa (x:=(some ⟨b4,0,none⟩,0,())) rfl ⟨b4,rfl,rfl⟩ ag aB
theorem pF(p:Nat)(l:List Bool)(k:Nat)(hk:1≤k)(hk2:k<2^30)(hl:l.length≤256):Spec ρ Tryz.prog 216 [.pointer (some ⟨p,0,none⟩),i64 k] [cc p l] P2
  fun r M=>(Sp.run l k=none∧r=(0,3,())∧M=[cc p l])∨∃i,Sp.run l k=some i∧r=(((i:Nat):Int),0,())∧M=[cc p (Sp.oq l true i k)]:=by
 refine Spec.of (fun Q w h=>F.dj.fj.Take.calls (some ⟨p,0,none⟩) k h) fun R=> ?_
 unfold F.dj.fj.Take
 try simp only[aq,al]
 refine ak rfl (ak (by simp;omega) (ah ?_))
 refine cc.op tk fun b=> ?_
 refine ai (k:= .ptr) (x:=some ⟨b,0,none⟩) (by rw[af]) tk rfl ?_
 refine ae (Al b l k hk (by omega) (by omega)) ag ?_
 rintro x M ⟨rfl,rfl⟩
 try simp only[aq,al]
 cases hr:Sp.run l k with
 |none=>
  refine aH rfl ?_
  refine Tr.close (M:=[aw p [.pointer (some ⟨b,0,none⟩)],aX b l]) ag (cc.cl (p:=p)) ?_
  exact aa (x:=(0,3,())) rfl (.inl ⟨rfl,rfl,rfl⟩) ag aB
 |some i=>
  have hi:=Sp.zb hr
  refine ak (decide_eq_false (by simp only[Sp.oI];omega)) ?_
  refine aK (aR [aw p [.pointer (some ⟨b,0,none⟩)]] ag ?_)
  refine ah (ar (k:= .ptr) (x:=some ⟨b,0,none⟩) (by rw[af]) tk rfl ?_)
  simp only[Sp.oI]
  refine ae (qU i k (by omega)) ag ?_
  rintro s M ⟨hs,rfl⟩
  try simp only[aq,al]
  refine aN ag ?_
  refine Tr.cX (s:=s) tk fun ρ' hle hro=> ?_
  refine ae (jc b l true s (Sp.row i k) hro (by rw[Sp.wm];omega)) ag ?_
  rintro x M ⟨rfl,rfl⟩
  try simp only[aq,al]
  rw[if_pos (Sp.vY hi.1)]
  refine Tr.close (M:=[aw p [.pointer (some ⟨b,0,none⟩)],aX b (Sp.oq l true i k)]) ag (cc.cl (p:=p)) ?_
  exact aa (x:=(((i:Nat):Int),0,())) rfl (.inr ⟨i,rfl,rfl,rfl⟩) ag aB
theorem qc(p:Nat)(l:List Bool)(i k:Nat)(hi:1≤i)(hk:1≤k)(hik:i+k≤l.length)(hl:l.length≤256)(hall:∀j,i≤j→j<i+k→l.getD j false=true):
  Spec ρ Tryz.prog 189 [.pointer (some ⟨p,0,none⟩),i64 i,i64 k] [cc p l] R1 fun r M=>r=0∧M=[cc p (Sp.oq l false i k)]:=by
 refine Spec.of (fun Q w h=>F.dj.fj.qo.calls (some ⟨p,0,none⟩) i k h) fun R=> ?_
 unfold F.dj.fj.qo
 try simp only[aq,al]
 refine ak rfl (ak (by simp;omega) (ak (by simp;omega) (ah ?_)))
 refine cc.op tk fun b=> ?_
 refine ai (k:= .ptr) (x:=some ⟨b,0,none⟩) (by rw[af]) tk rfl ?_
 refine ae (gD b l) ag ?_
 rintro x M ⟨rfl,rfl⟩
 try simp only[aq,al]
 refine ak (by simp;omega) (ah ?_)
 refine ai (k:= .ptr) (x:=some ⟨b,0,none⟩) (by rw[af]) tk rfl ?_
 refine ae (gD b l) ag ?_
 rintro x M ⟨rfl,rfl⟩
 try simp only[aq,al]
 rw[wrap64 (by omega) (by omega),wrap64 (by omega) (by omega)]
 refine ak (by simp;omega) (ah ?_)
 refine ai (k:= .ptr) (x:=some ⟨b,0,none⟩) (by rw[af]) tk rfl ?_
 refine ae (eI b l i false (by omega)) ag ?_
 rintro x M ⟨rfl,rfl⟩
 try simp only[aq,al]
 have hn:Sp.next l i false= -1∨(i+k:Int)≤Sp.next l i false:=by
  rcases Sp.ft l false i with ⟨g1,g2⟩|⟨q,g1,g2,g3,g4,g5⟩
  ·exact .inl g1
  ·right
   rw[g1]
   rcases Nat.lt_or_ge q (i+k)with h|h
   ·rw[hall q g2 h]at g4;cases g4
   ·omega
 refine aj (fun h=>ak (by simp at h⊢;omega) ?_) (fun h=> ?_)
 all_goals
  refine aK (aR [aw p [.pointer (some ⟨b,0,none⟩)]] ag ?_)
  refine ah (ar (k:= .ptr) (x:=some ⟨b,0,none⟩) (by rw[af]) tk rfl ?_)
  refine ae (qU i k (by omega)) ag ?_
  rintro s M ⟨hs,rfl⟩
  try simp only[aq,al]
  refine aN ag ?_
  refine Tr.cX (s:=s) tk fun ρ' hle hro=> ?_
  refine ae (jc b l false s (Sp.row i k) hro (by rw[Sp.wm];omega)) ag ?_
  rintro x M ⟨rfl,rfl⟩
  try simp only[aq,al]
  rw[if_pos (Sp.vY hik),if_pos (Sp.vY hik)]
  refine Tr.close (M:=[aw p [.pointer (some ⟨b,0,none⟩)],aX b (Sp.oq l false i k)]) ag (cc.cl (p:=p)) ?_
  exact aa (x:=(0:Int)) rfl ⟨rfl,rfl⟩ ag aB
end Go.Proofs.YtfepdmpplahloaaGreat
