import Derived.Test.YtjginndmmlkjiaaGreatGsRefE
set_option linter.unusedSimpArgs false
set_option linter.unusedVariables false
namespace Go.Proofs.YtjginndmmlkjiaaGreat
section
open Go Go.Gl
variable{ρ0 ρ:FR}{L L':List aD}{Post:Value→List aD→Prop}{T:Tree}
theorem tW.le{ρ':FR}{s:av}{os:List pX}(h:tW ρ s os)(hle:Le ρ ρ'):tW ρ' s os:=⟨h.1,h.2.elim fun l g=>⟨l,g.1,g.2.1.le hle,fun x hx=>⟨(g.2.2 x hx).1.le hle,(g.2.2 x hx).2⟩⟩⟩
theorem uV{S:aJ}{cs:List aX}(hw:aY S cs):(∀o∈Ob.eR S,o.ws.length<2^40)∧(Ob.eR S).length<2^40:=by
 refine⟨fun o ho=>?_,?_⟩
 ·obtain⟨a,_,rfl⟩:=List.mem_map.mp ho;unfold Ob.jh;split;·rename_i h hh;obtain⟨_,_,_,_,_,g,_⟩:=Ob.bU hw hh;have:=Sp.cb g;simp;omega
  ·simp
 ·have:=Sp.df hw.wf;unfold Ob.eR;grind
end
section
open Go Go.Gl
set_option maxRecDepth 100000
def F.stack.gB(p0:Int):Tree:=br (decide ((p0:Int)<1)) (ret (.tuple #[pV none,i64 1])) (br (decide ((p0:Int)>4096)) (ret (.tuple #[pV none,i64 1])) (nw 225 [.slice none 0 0,i64 p0,.bool false] fun b1=>ret (.tuple #[pV (some (aB b1)),i64 0])))
theorem F.stack.gB.calls(p0:Int):Cf 95 [i64 p0] (F.stack.gB p0):=Tryz.cd az.z Tryz.func95
def F.mark.gB(p0:OA)(p1:Int):Tree:=br (Option.isNone p0) (ret (.tuple #[pV none,i64 2])) (cN 95 [i64 p1] [.l .ptr,.l kI] fun r1=>br ((r1.2.1:Int) != 0) (ret (.tuple #[pV none,i64 r1.2.1])) (nn p0 fun a2=>dP (fa a2 0) fun x3=>nn x3 fun a4=>dP (fa a4 0) fun x5=>cI 202 [pV x5] fun r6=>cN 248 [i64 r6] [.l .ptr,.l kI] fun r7=>br ((r7.2.1:Int) != 0) (ret (.tuple #[pV none,i64 r7.2.1])) (nw 313 [pV r7.1,pV p0,pV r1.1,i64 0] fun b8=>ret (.tuple #[pV (some (aB b8)),i64 0]))))
theorem F.mark.gB.calls(p0:OA)(p1:Int):Cf 204 [pV p0,i64 p1] (F.mark.gB p0 p1):=Tryz.cd az.z Tryz.func204
def F.mark.cX.Mark.T:az:=⟨(fun|2=>[(12,kI)]|7=>[]|10=>[(35,kI)]|_=>[]),fun _=>none,fun _=> .quiet⟩
def F.mark.cX.Mark(p0:OA)(p1:av):Tree:=br (Option.isNone p0) (ret (.tuple #[])) (lp [kI] (fun X1 u2=>br (decide ((u2.1:Int)<(p1.n:Nat))) (ix p1.a p1.n u2.1 1 fun a3=>dI a3 fun x4=>cN 252 [pV p0,i64 x4] [] fun r5=>cN 253 [pV p0] [] fun r6=>X1 (IntKind.wrap .i64 (u2.1+1),())) (lp [] (fun X3 u4=>nn p0 fun a5=>dP (fa a5 2) fun x6=>cB 254 [pV x6] fun r7=>br r7 (nn p0 fun a8=>dP (fa a8 2) fun x9=>cN 255 [pV x9] [] fun r10=>cS 211 [pV p0] fun r11=>lp [kI] (fun X12 u13=>br (decide ((u13.1:Int)<(r11.n:Nat))) (ix r11.a r11.n u13.1 1 fun a14=>dI a14 fun x15=>cN 256 [pV p0,i64 x15] [] fun r16=>cN 253 [pV p0] [] fun r17=>X12 (IntKind.wrap .i64 (u13.1+1),())) (X3 (()))) (0,())) (ret (.tuple #[]))) (()))) (0,()))
theorem F.mark.cX.Mark.calls(p0:OA)(p1:av):Cf 206 [pV p0,sV p1] (F.mark.cX.Mark p0 p1):=Tryz.cd F.mark.cX.Mark.T Tryz.func206
def F.mark.cX.sW.T:az:=⟨(fun|5=>[(3,.slice),(4,kI)]|_=>[]),fun _=>none,fun _=> .quiet⟩
def F.mark.cX.sW(p0:OA):Tree:=br (Option.isNone p0) (ret (.slice none 0 0)) (nn p0 fun a1=>dP (fa a1 0) fun x2=>cI 194 [pV x2,i64 0,.bool true] fun r3=>lp [.slice,kI] (fun X4 u5=>br (decide ((u5.2.1:Int)≥0)) (nw 3 [i64 u5.2.1] fun b6=>ap 43 (sV u5.1) (.slice (some ⟨b6,0,none⟩) 1 1) fun r7=>nn p0 fun a8=>dP (fa a8 0) fun x9=>cI 194 [pV x9,i64 (IntKind.wrap .i64 (u5.2.1+1)),.bool true] fun r10=>X4 (r7,r10,())) (ret (sV u5.1))) (⟨none,0,0⟩,r3,()))
theorem F.mark.cX.sW.calls(p0:OA):Cf 211 [pV p0] (F.mark.cX.sW p0):=Tryz.cd F.mark.cX.sW.T Tryz.func211
def F.mark.cX.one.T:az:=⟨fun _=>[],fun _=>none,(fun|5=> .held (some 13) (gF [0,1,2,3,4,5,6,7,8,9,10,11,12] (.go 13 true .nil))|_=> .quiet)⟩
def F.mark.cX.one(p0:OA)(p1:Int):Tree:=nn p0 fun a1=>dP (fa a1 0) fun x2=>cB 203 [pV x2,i64 p1] fun r3=>br r3 (ret (.tuple #[])) (nn p0 fun a4=>dP (fa a4 1) fun x5=>cN 137 [pV x5,i64 p1] [.g [kI,kI,kI,.bool],.l kI] fun r6=>nw 72 (zc Zp 72) fun b7=>st (aB b7) [i64 r6.1.1,i64 r6.1.2.1,i64 r6.1.2.2.1,.bool r6.1.2.2.2.1]<|br ((r6.2.1:Int) != 0) (ret (.tuple #[])) (nn p0 fun a8=>dP (fa a8 0) fun x9=>nw 3 [i64 p1] fun b10=>cI 269 [pV x9,.bool true,.slice (some ⟨b10,0,none⟩) 1 1] fun r11=>nn p0 fun a12=>dP (fa a12 2) fun x13=>nw 3 [i64 p1] fun b14=>cI 295 [pV x13,.slice (some ⟨b14,0,none⟩) 1 1] fun r15=>cD<|Gl.held fun S16=>nn p0 fun a17=>eI S16 (fa a17 3) fun x18=>nn p0 fun a19=>eP S16 (fa a19 2) fun x20=>cI 296 [pV x20] fun r21=>aZ S16<|nn p0 fun a22=>st (fa a22 3) [i64 (if(r21:Int)>x18 then(r21:Int)else x18)]<|ret (.tuple #[])))
theorem F.mark.cX.one.calls(p0:OA)(p1:Int):Cf 252 [pV p0,i64 p1] (F.mark.cX.one p0 p1):=Tryz.cd F.mark.cX.one.T Tryz.func252
def F.mark.cX.drain.T:az:=⟨(fun|1=>[(2,kI),(3,.bool)]|_=>[]),fun _=>none,fun _=> .quiet⟩
def F.mark.cX.drain(p0:OA):Tree:=nn p0 fun a1=>dP (fa a1 2) fun x2=>cN 297 [pV x2] [.l kI,.l .bool] fun r3=>lp [kI,.bool] (fun X4 u5=>br u5.2.1 (cN 256 [pV p0,i64 u5.1] [] fun r6=>nn p0 fun a7=>dP (fa a7 2) fun x8=>cN 297 [pV x8] [.l kI,.l .bool] fun r9=>X4 (r9.1,r9.2.1,())) (ret (.tuple #[]))) (r3.1,r3.2.1,())
theorem F.mark.cX.drain.calls(p0:OA):Cf 253 [pV p0] (F.mark.cX.drain p0):=Tryz.cd F.mark.cX.drain.T Tryz.func253
def F.stack.Stack.Over(p0:OA):Tree:=br (!(Option.isNone p0)) (nn p0 fun a1=>dB (fa a1 2) fun x2=>ret (.bool x2)) (ret (.bool false))
theorem F.stack.Stack.Over.calls(p0:OA):Cf 254 [pV p0] (F.stack.Stack.Over p0):=Tryz.cd az.z Tryz.func254
def F.stack.Stack.GD(p0:OA):Tree:=br (!(Option.isNone p0)) (nn p0 fun a1=>st (fa a1 2) [.bool false]<|ret (.tuple #[])) (ret (.tuple #[]))
theorem F.stack.Stack.GD.calls(p0:OA):Cf 255 [pV p0] (F.stack.Stack.GD p0):=Tryz.cd az.z Tryz.func255
def F.mark.cX.fields.T:az:=⟨(fun|1=>[(15,kI)]|_=>[]),fun _=>none,fun _=> .quiet⟩
def F.mark.cX.fields(p0:OA)(p1:Int):Tree:=nn p0 fun a1=>dP (fa a1 1) fun x2=>cS 228 [pV x2,i64 p1] fun r3=>lp [kI] (fun X4 u5=>br (decide ((u5.1:Int)<(r3.n:Nat))) (ix r3.a r3.n u5.1 1 fun a6=>dI a6 fun x7=>nn p0 fun a8=>dP (fa a8 1) fun x9=>cN 138 [pV x9,i64 p1,i64 x7] [.l kI,.l kI] fun r10=>br ((r10.2.1:Int)==0) (cN 252 [pV p0,i64 r10.1] [] fun r11=>X4 (IntKind.wrap .i64 (u5.1+1),())) (X4 (IntKind.wrap .i64 (u5.1+1),()))) (ret (.tuple #[]))) (0,())
theorem F.mark.cX.fields.calls(p0:OA)(p1:Int):Cf 256 [pV p0,i64 p1] (F.mark.cX.fields p0 p1):=Tryz.cd F.mark.cX.fields.T Tryz.func256
def F.mark.cX.BB(p0:OA)(p1:Int):Tree:=br (!(Option.isNone p0)) (nn p0 fun a1=>dP (fa a1 0) fun x2=>cB 203 [pV x2,i64 p1] fun r3=>ret (.bool r3)) (ret (.bool false))
theorem F.mark.cX.BB.calls(p0:OA)(p1:Int):Cf 261 [pV p0,i64 p1] (F.mark.cX.BB p0 p1):=Tryz.cd az.z Tryz.func261
def F.stack.Stack.pc.T:az:=⟨fun _=>[],fun _=>none,(fun|3=> .quiet|4=> .held (some 8) (gF [0,1,2,3,4,5,6,7] (.go 8 true (gF [9,10,11] .nil)))|_=> .quiet)⟩
def F.stack.Stack.pc(p0:OA)(p1:av):Tree:=br (Option.isNone p0) (ret (i64 0)) (cD<|nn p0 fun a1=>dI (fa a1 1) fun x2=>nn p0 fun a3=>dS (fa a3 0) fun x4=>cD<|Gl.held fun S5=>nn p0 fun a6=>eS S5 (fa a6 0) fun x7=>sG p1.a p1.c 0 (if(IntKind.wrap .i64 (x2-(x4.n:Nat)):Int)<(p1.n:Nat)then(IntKind.wrap .i64 (x2-(x4.n:Nat)):Int)else(p1.n:Nat)) 1 fun s8=>ap 43 (sV x7) (sV s8) fun r9=>nn p0 fun a10=>st (fa a10 0) [sV r9]<|nn p0 fun a11=>dB (fa a11 2) fun x12=>br x12 (nn p0 fun a13=>st (fa a13 2) [.bool true]<|ret (i64 (if(IntKind.wrap .i64 (x2-(x4.n:Nat)):Int)<(p1.n:Nat)then(IntKind.wrap .i64 (x2-(x4.n:Nat)):Int)else(p1.n:Nat)))) (nn p0 fun a13=>st (fa a13 2) [.bool (decide (((if(IntKind.wrap .i64 (x2-(x4.n:Nat)):Int)<(p1.n:Nat)then(IntKind.wrap .i64 (x2-(x4.n:Nat)):Int)else(p1.n:Nat)):Int)<(p1.n:Nat)))]<|ret (i64 (if(IntKind.wrap .i64 (x2-(x4.n:Nat)):Int)<(p1.n:Nat)then(IntKind.wrap .i64 (x2-(x4.n:Nat)):Int)else(p1.n:Nat)))))
theorem F.stack.Stack.pc.calls(p0:OA)(p1:av):Cf 295 [pV p0,sV p1] (F.stack.Stack.pc p0 p1):=Tryz.cd F.stack.Stack.pc.T Tryz.func295
def F.stack.Stack.Et(p0:OA):Tree:=br (Option.isNone p0) (ret (i64 0)) (nn p0 fun a1=>dS (fa a1 0) fun x2=>ret (i64 (x2.n:Nat)))
theorem F.stack.Stack.Et.calls(p0:OA):Cf 296 [pV p0] (F.stack.Stack.Et p0):=Tryz.cd az.z Tryz.func296
def F.stack.Stack.LG.T:az:=⟨fun _=>[],fun _=>none,(fun|3=> .quiet|4=> .tail 14 |_=> .quiet)⟩
def F.stack.Stack.LG(p0:OA):Tree:=cI 296 [pV p0] fun r1=>br ((r1:Int)==0) (ret (.tuple #[i64 0,.bool false])) (cD<|nn p0 fun a2=>dS (fa a2 0) fun x3=>nn p0 fun a4=>dS (fa a4 0) fun x5=>ix x3.a x3.n (IntKind.wrap .i64 ((x5.n:Nat)-1)) 1 fun a6=>dI a6 fun x7=>cD<|nn p0 fun a8=>dS (fa a8 0) fun x9=>nn p0 fun a10=>dS (fa a10 0) fun x11=>sG x9.a x9.c 0 (IntKind.wrap .i64 ((x11.n:Nat)-1)) 1 fun s12=>nn p0 fun a13=>st (fa a13 0) [sV s12]<|ret (.tuple #[i64 x7,.bool true]))
theorem F.stack.Stack.LG.calls(p0:OA):Cf 297 [pV p0] (F.stack.Stack.LG p0):=Tryz.cd F.stack.Stack.LG.T Tryz.func297
variable{ρ0 ρ:FR}{L L':List aD}{Post:Value→List aD→Prop}{T:Tree}
namespace Mk
def sO(S:aJ)(a i:Int):Option Int:=if(Ob.get S a i).2=0 then some (Ob.get S a i).1 else none
def kids(S:aJ)(cs:List aX)(a:Int):List Int:=(Ob.refs S cs a).filterMap (sO S a)
def obj(S:aJ)(a:Int):Prop:=(Ob.head S a).isSome=true
inductive pT (S:aJ) (cs:List aX) (R:List Int):Int→Prop
 |root {a:Int} (h:a∈R) (ho:obj S a):pT S cs R a
 |step {a b:Int} (h:pT S cs R a) (hb:b∈kids S cs a) (ho:obj S b):pT S cs R b
structure St where
 m:List Bool
 gj:List Int
 over:Bool
 deep:Int
def push(room:Nat)(l:List Int)(x:Int):List Int:=if l.length<room then l++[x]else l
def one(S:aJ)(room:Nat)(st:St)(x:Int):St:=
 if Sp.has st.m x=true then st else if Ob.head S x=none then st else
  ⟨st.m.set x.toNat true,push room st.gj x,st.over||decide (room≤st.gj.length),if((push room st.gj x).length:Int)>st.deep then((push room st.gj x).length:Int)else st.deep⟩
def fields(S:aJ)(cs:List aX)(room:Nat)(st:St)(a:Int):St:=(kids S cs a).foldl (one S room) st
structure ju(S:aJ)(cs:List aX)(m:List Bool):Prop where
 len:m.length=S.ws.length
 obj:∀a,Sp.has m a=true→Mk.obj S a
 sO:∀a,Sp.has m a=true→∀b∈kids S cs a,Mk.obj S b→Sp.has m b=true
theorem ke{S:aJ}{cs:List aX}(hw:aY S cs){a:Int}(h:obj S a):0≤a∧a.toNat<S.ws.length:=by
 unfold obj at h;cases hh:Ob.head S a with
 |none=>rw[hh]at h;cases h
 |some hd=>obtain⟨n,w,rfl,_,_,g3,g4,g5⟩:=Ob.bU hw hh;have:=Sp.cb g3;omega
theorem km{m:List Bool}{x a:Int}(hx:0≤x)(hl:x.toNat<m.length):Sp.has (m.set x.toNat true) a=(decide (a=x)||Sp.has m a):=by unfold Sp.has;grind
theorem count_set{m:List Bool}{i:Nat}(hl:i<m.length)(h:m.getD i false=false):(m.set i true).count false+1=m.count false:=by grind
structure Inv(S:aJ)(cs:List aX)(room:Nat)(m0:List Bool)(T:Int→Prop)(c:Nat)(st:St)(E:List Int):Prop where
 len:st.m.length=S.ws.length
 rj:∀a,Sp.has m0 a=true→Sp.has st.m a=true
 new:∀a,Sp.has st.m a=true→Sp.has m0 a=true∨T a
 obj:∀a,Sp.has st.m a=true→Mk.obj S a
 done:st.over=false→∀a,Sp.has st.m a=true→a∈st.gj∨a∈E∨∀b∈kids S cs a,Mk.obj S b→Sp.has st.m b=true
 gj:∀a∈st.gj,Sp.has st.m a=true
 small:st.gj.length≤room
 qX:0≤st.deep
 px:st.deep≤room
 lost:st.over=true→st.m.count false<c
variable{S:aJ}{cs:List aX}{room:Nat}{m0:List Bool}{R:Int→Prop}{c:Nat}{st:St}{E:List Int}
theorem zQ{l:List Int}{x:Int}(h:l.length≤room):(push room l x).length≤room∧l.length≤(push room l x).length:=by unfold push;split<;>simp<;>omega
theorem um(S:aJ)(room:Nat)(st:St)(x:Int){a:Int}(hw:aY S cs)(hl:st.m.length=S.ws.length)(h:Sp.has st.m a=true):Sp.has (one S room st x).m a=true:=by
 unfold one;split;·exact h
 ·split;·exact h
  ·rename_i h1 h2
   have ho:Mk.obj S x:=by unfold Mk.obj;cases hh:Ob.head S x with
    |none=>exact absurd hh h2
    |some y=>rfl
   obtain⟨g1,g2⟩:=ke hw ho;rw[km g1 ae,h,Bool.or_true]
theorem IJ(S:aJ)(room:Nat)(st:St)(x:Int):(one S room st x).m.length=st.m.length:=by unfold one;grind
theorem wY(hw:aY S cs)(hl:st.m.length=S.ws.length){x:Int}(ho:Mk.obj S x):Sp.has (one S room st x).m x=true:=by
 unfold one;split;·assumption
 ·split;·rename_i h2;unfold Mk.obj at ho;rw[h2]at ho;cases ho
  ·obtain⟨g1,g2⟩:=ke hw ho;rw[km g1 ae,decide_eq_true rfl];rfl
def todo(st:St):Nat:=2*st.m.count false+st.gj.length
theorem GC(hw:aY S cs)(hl:st.m.length=S.ws.length)(x:Int):todo (one S room st x)≤todo st:=by
 unfold one;split;·exact Nat.le_refl _
 ·split;·exact Nat.le_refl _
  ·rename_i h1 h2
   have ho:Mk.obj S x:=by unfold Mk.obj;cases hh:Ob.head S x with
    |none=>exact absurd hh h2
    |some y=>rfl
   obtain⟨g1,g2⟩:=ke hw ho;have hg:st.m.getD x.toNat false=false:=by
    cases hg:st.m.getD x.toNat false with
    |false=>rfl
    |true=>unfold Sp.has at h1;grind
   have hc:=count_set ae hg;unfold todo;dsimp only;have:(push room st.gj x).length≤st.gj.length+1:=by unfold push;split<;>simp
   omega
theorem Inv.one(hw:aY S cs)(H:Inv S cs room m0 R c st E){x:Int}(hx:Mk.obj S x→Sp.has m0 x=true∨R x)(hc:st.m.count false≤c):Inv S cs room m0 R c (Mk.one S room st x) E:=by
 unfold Mk.one;split;·exact H
 ·rename_i h1;split;·exact H
  ·rename_i h2
   have ho:Mk.obj S x:=by unfold Mk.obj;cases hh:Ob.head S x with
    |none=>exact absurd hh h2
    |some y=>rfl
   obtain⟨g1,g2⟩:=ke hw ho;have hl:=H.len;have hg:st.m.getD x.toNat false=false:=by
    cases hg:st.m.getD x.toNat false with
    |false=>rfl
    |true=>unfold Sp.has at h1;grind
   have hcnt:=count_set ae hg;have hhas:∀a,Sp.has (st.m.set x.toNat true) a=_:=fun a=>km g1 ae;have hup:∀a,Sp.has st.m a=true→Sp.has (st.m.set x.toNat true) a=true:=fun a h=>by grind
   obtain⟨p1,p2⟩:=zQ (x:=x) H.small;refine⟨by simp[hl],fun a h=>hup a (H.rj a h),fun a h=>?_,fun a h=>?_,fun hov a h=>?_,fun a h=>?_,p1,?_,?_,fun _=>by dsimp only;omega⟩
   ·rw[hhas,Bool.or_eq_true,decide_eq_true_iff]at h;rcases h with rfl|h;·exact hx ho
    ·exact H.new a h
   ·rw[hhas,Bool.or_eq_true,decide_eq_true_iff]at h;rcases h with rfl|h;·exact ho
    ·exact H.obj a h
   ·rw[Bool.or_eq_false_iff,decide_eq_false_iff_not]at hov;have hpush:push room st.gj x=st.gj++[x]:=by unfold push;rw[if_pos ae]
    rw[hpush];rw[hhas,Bool.or_eq_true,decide_eq_true_iff]at h;rcases h with rfl|h;·exact .inl bu
    ·rcases H.done hov.1 a h with h'|h'|h';·grind
     ·exact .inr (.inl h')
     grind
   ·unfold push at h;split at h
    ·rcases List.mem_append.mp h with h|h;·exact hup a (H.gj a h)
     grind
    ·exact hup a (H.gj a h)
   ·grind
   ·have:=H.px;grind
theorem rU(hw:aY S cs)(hl:st.m.length=S.ws.length)(x:Int):(Mk.one S room st x).m.count false≤st.m.count false:=by
 unfold Mk.one;split;·exact Nat.le_refl _
 ·split;·exact Nat.le_refl _
  ·rename_i h1 h2
   have ho:Mk.obj S x:=by unfold Mk.obj;cases hh:Ob.head S x with
    |none=>exact absurd hh h2
    |some y=>rfl
   obtain⟨g1,g2⟩:=ke hw ho;grind
theorem Inv.many(hw:aY S cs):∀(l:List Int) {st:St},Inv S cs room m0 R c st E→(∀x∈l,Mk.obj S x→Sp.has m0 x=true∨R x)→st.m.count false≤c→
  Inv S cs room m0 R c (l.foldl (Mk.one S room) st) E∧(l.foldl (Mk.one S room) st).m.count false≤st.m.count false∧todo (l.foldl (Mk.one S room) st)≤todo st∧(∀a,Sp.has st.m a=true→Sp.has (l.foldl (Mk.one S room) st).m a=true)∧∀x∈l,Mk.obj S x→Sp.has (l.foldl (Mk.one S room) st).m x=true
 |[],st,H,_,_=>⟨H,Nat.le_refl _,Nat.le_refl _,fun _ h=>h,by simp⟩
 |x::l,st,H,hx,hc=>by
  have h1:=H.one hw (hx x List.mem_cons_self) hc;have hc1:=rU (room:=room) hw H.len x;obtain⟨i1,i2,i3,i4,i5⟩:=Inv.many hw l h1 (fun y hy=>hx y (List.mem_cons_of_mem _ hy)) (by omega);rw[List.foldl_cons];refine⟨i1,by omega,Nat.le_trans i3 (GC hw H.len x),fun a h=>i4 a (um S room st x hw H.len h),fun y hy ho=>?_⟩;rcases List.mem_cons.mp hy with rfl|hy;·exact i4 _ (wY hw H.len ho)
  ·exact i5 y hy ho
theorem Inv.fields(hw:aY S cs)(hm0:ju S cs m0)(hR:∀a,R a→∀b∈kids S cs a,Mk.obj S b→R b){a:Int}(H:Inv S cs room m0 R c st (a::E))(ha:Sp.has st.m a=true)(hc:st.m.count false≤c):
  Inv S cs room m0 R c (Mk.fields S cs room st a) E∧(Mk.fields S cs room st a).m.count false≤st.m.count false∧todo (Mk.fields S cs room st a)≤todo st∧∀b,Sp.has st.m b=true→Sp.has (Mk.fields S cs room st a).m b=true:=by
 obtain⟨i1,i2,i3,i4,i5⟩:=Inv.many hw (kids S cs a) H (fun x hx ho=>by
  rcases H.new a ha with h|h;·exact .inl (hm0.sO a h x hx ho)
  grind) hc;refine⟨⟨i1.len,i1.rj,i1.new,i1.obj,fun hov b hb=>?_,i1.gj,i1.small,i1.qX,i1.px,i1.lost⟩,i2,i3,i4⟩;rcases i1.done hov b hb with h|h|h;·exact .inl h
 ·rcases List.mem_cons.mp h with rfl|h;·exact .inr (.inr i5)
  ·exact .inr (.inl h)
 ·exact .inr (.inr h)
theorem Inv.pop{l:List Int}{a:Int}(H:Inv S cs room m0 R c st E)(hs:st.gj=l++[a]):Inv S cs room m0 R c {st with gj:=l} (a::E)∧Sp.has st.m a=true:=by
 refine⟨⟨H.len,H.rj,H.new,H.obj,fun hov b hb=>?_,fun b hb=>H.gj b eV,?_,H.qX,H.px,H.lost⟩,H.gj a (by rw[hs];simp)⟩
 ·rcases H.done hov b hb with h|h|h;·grind
  ·grind
  ·exact .inr (.inr h)
 ·have:=H.small;grind
theorem Inv.over(hm0:ju S cs m0)(H:Inv S cs room m0 R c st [])(hs:st.gj=[])(ho:st.over=false):ju S cs st.m:=by
 refine⟨H.len,H.obj,fun a ha=>?_⟩;rcases H.done ho a ha with h|h|h;·rw[hs]at h;cases h
 ·cases h
 ·exact h
theorem ju.LQ{m:List Bool}{l:List Int}(h:ju S cs m)(hr:∀a∈l,Mk.obj S a→Sp.has m a=true){a:Int}(ha:pT S cs l a):Sp.has m a=true:=by
 induction ha with
 |root h' ho=>exact hr _ h' ho
 |step _ hb ho ih=>exact h.sO _ ih _ hb ho
def all(m:List Bool):List Int:=((List.range m.length).filter fun i=>m.getD i false).map fun i:Nat=>(i:Int)
theorem ko{m:List Bool}{a:Int}:a∈all m↔Sp.has m a=true:=by unfold all Sp.has;grind
theorem gp{m:List Bool}:(all m).length≤m.length:=by unfold all;grind
theorem It{m m':List Bool}(hl:m.length=m'.length)(h:∀a,Sp.has m a=Sp.has m' a):m=m':=by refine List.ext_getElem hl fun j h1 h2=>?_;have:=h j;unfold Sp.has at this;grind
end Mk
def iM(p:Nat)(l:List Int)(room:Nat)(over:Bool):aD:=fun h=>∃s:av,star [au p [.slice s.a s.n s.c,i64 room,.bool over],aw s 1 (l.map i64)] h
theorem iM.op{p:Nat}{l:List Int}{room:Nat}{over:Bool}(t:Take L (iM p l room over) L')(h:∀s:av,Tr ρ0 ρ (au p [.slice s.a s.n s.c,i64 room,.bool over]::aw s 1 (l.map i64)::L') T Post):Tr ρ0 ρ L T Post:=
 Tr.iW (M:=fun s:av=>[au p [.slice s.a s.n s.c,i64 room,.bool over],aw s 1 (l.map i64)]) (c:=fun _=>True) t (fun _ ⟨s,h⟩=>⟨s,trivial,h⟩) fun s _=>h s
theorem iM.cl{p:Nat}{l:List Int}{room:Nat}{over:Bool}{s:av}(h:HP)(H:star [au p [.slice s.a s.n s.c,i64 room,.bool over],aw s 1 (l.map i64)] h):iM p l room over h:=⟨s,H⟩
theorem wN(n:Int)(h0:1≤n)(h1:n≤4096):Gl.Spec ρ Zp 95 [i64 n] [] PE fun r M=>∃b,r=(oA b,0,())∧M=[iM b [] n.toNat false]:=by refine So (F.stack.gB.calls n) fun R=>ak (decide_eq_false ae) (ak (decide_eq_false ae) (aq fun b=>?_));exact Tr.cg 1<|Tr.imp (A:=au b [.slice _ 0 0,.int _ n,.bool false]) (A':=au b [.slice none 0 0,i64 n.toNat,.bool false]) tk (fun h H=>by grind)<|Tr.close ar (iM.cl (l:=[]) (s:=⟨none,0,0⟩))<|rT ⟨b,rfl,rfl⟩
theorem AK(n:Int)(h0:¬(1≤n∧n≤4096)):Gl.Spec ρ Zp 95 [i64 n] [] PE fun r M=>r=(none,1,())∧M=[]:=by
 refine So (F.stack.gB.calls n) fun R=>ag (fun _=>?_) (fun h=>bg (decide_eq_true ?_) ?_);·exact rT
 ·grind
 ·exact rT
theorem sn(p:Nat)(l:List Int)(room:Nat)(over:Bool):Gl.Spec ρ Zp 296 [pA p] [iM p l room over] R1 fun r M=>r=(l.length:Nat)∧M=[iM p l room over]:=by refine So (F.stack.Stack.Et.calls _) fun R=>ak rfl (af (iM.op tk fun s=>?_));refine iL<|Tr.fu tk fun hs=>tC (iM.cl) ?_;rw[hs];exact rT
theorem tq(p:Nat)(l:List Int)(room:Nat)(over:Bool):Gl.Spec ρ Zp 254 [pA p] [iM p l room over] RB fun r M=>r=over∧M=[iM p l room over]:=by refine So (F.stack.Stack.Over.calls _) fun R=>bg rfl (af (iM.op tk fun s=>?_));refine iL<|tC (iM.cl) ?_;exact rT
theorem sj(p:Nat)(l:List Int)(room:Nat)(over:Bool):Gl.Spec ρ Zp 255 [pA p] [iM p l room over] (.many []) fun r M=>M=[iM p l room false]:=by refine So (F.stack.Stack.GD.calls _) fun R=>bg rfl (af (iM.op tk fun s=>?_));exact cz (off:=2) bL tk bu rfl<|Tr.close ar (iM.cl)<|rT rfl
theorem Ap(p:Nat)(l:List Int)(room:Nat)(over:Bool)(x:Int)(b:Nat)(hs:fx ρ ⟨oA b,1,1⟩ 1 ([x].map i64))(hl:l.length≤room)(hr:room≤4096):Gl.Spec ρ Zp 295 [pA p,.slice (oA b) 1 1] [iM p l room over] R1
  fun _ M=>M=[iM p (Mk.push room l x) room (over||decide (room≤l.length))]:=by
 refine So (F.stack.Stack.pc.calls _ ⟨oA b,1,1⟩) fun R=>?_;unfold F.stack.Stack.pc;try simp only[c8,c9]
 refine ak rfl (aA (af (iM.op tk fun s=>?_)));refine iL<|af<|iL<|Tr.fu tk fun hsn=>?_;rw[bG (n:=(room:Int)-((s.n:Nat):Int))];refine aA (aK [au p [.slice _ _ s.c,i64 room,.bool over]] ar (af ?_));refine jL ?_;have fin:∀(v:Int) (l':List Int) (s':av) (o:Bool),Mk.push room l x=l'→(over||o)=(over||decide (room≤l.length))→(decide (v<1)=o)→Tr ρ ρ (aw s' 1 (l'.map i64)::au p [.slice s.a s.n s.c,i64 room,.bool over]::R)
   (nn (oA p) fun a10=>st (fa a10 0) [.slice s'.a s'.n s'.c]<|nn (oA p) fun a11=>ld (.l .bool) (fa a11 2) fun(x12:Bool)=>br x12
    (nn (oA p) fun a13=>st (fa a13 2) [.bool true]<|ret (.int .i64 v))
    (nn (oA p) fun a13=>st (fa a13 2) [.bool (decide (v<(((1:Nat):Nat):Int)))]<|ret (.int .i64 v)))
   (SP R1 (fun _ M=>M=[iM p (Mk.push room l x) room (over||decide (room≤l.length))]) R):=fun v l' s' o h1 h2 h3=>by
  refine af<|cz (off:=0) bL tk bu rfl (af ?_);apply aT bL tk rfl;rw[h1,←h2];refine ag (fun h=>?_) (fun h=>?_);·refine af<|cz (off:=2) bL tk (by simp[cH]) rfl ?_;rw[h];exact Tr.close ar (iM.cl)<|rT rfl
  ·refine af<|cz (off:=2) bL tk (by simp[cH]) rfl ?_;rw[h];have h3':decide (v<((1:Nat):Int))=o:=h3;rw[h3'];exact Tr.close ar (iM.cl)<|rT rfl
 by_cases hc:l.length<room
 ·have e:(if(room:Int)-(s.n:Int)<(((1:Nat):Nat):Int)then room-(s.n:Int)else((1:Nat):Int))=1:=by omega
  rw[e];exact ei ae ae ae<|bj bJ tk (Rd.ro hs) fC fun r hr=>fin 1 _ r _ (by unfold Mk.push;rw[if_pos hc]) eV rfl
 ·have e:(if(room:Int)-(s.n:Int)<(((1:Nat):Nat):Int)then room-(s.n:Int)else((1:Nat):Int))=0:=by omega
  rw[e];refine ei ae ae ae<|bj (ys:=[]) bJ tk ⟨by simp,fun _ _=> .inl rfl⟩ fC fun r hr=>?_;rw[List.append_nil];exact fin 0 l r _ (by unfold Mk.push;rw[if_neg hc]) eV rfl
theorem aw.I4{s:av}{xs:List Int}{y:Int}(h:HP)(H:aw s 1 ((xs++[y]).map i64) h):aw ⟨s.a,xs.length,s.c⟩ 1 (xs.map i64) h:=by
 rcases H with ⟨_,_,_,g,_⟩|⟨b,off,pre,rest,g1,g2,g3,g4,g5,g6⟩;·simp at g
 ·right;grind
theorem D3(p:Nat)(l:List Int)(room:Nat)(over:Bool)(hr:l.length<2^40):Gl.Spec ρ Zp 297 [pA p] [iM p l room over] IB
  fun r M=>(l=[]∧r=((0:Int),false,())∧M=[iM p l room over])∨∃l' a,l=l'++[a]∧r=((a:Int),true,())∧M=[iM p l' room over]:=by
 refine So (F.stack.Stack.LG.calls _) fun R=>cE (sn p l _ _) ?_;rcases List.eq_nil_or_concat l with rfl|⟨l',a,e⟩;·exact bT<|rT (.inl ⟨rfl,rfl,rfl⟩)
 ·rw[List.concat_eq_append]at e;subst e;rw[List.length_append,List.length_singleton]at hr⊢;refine ak fC (aA (af (iM.op tk fun s=>?_)));refine iL<|af<|iL<|Tr.fA tk fun hs hsc=>?_;simp at hs;rw[bG (n:=((s.n:Nat):Int)-1)];apply bt tk ae fC;rw[show(((s.n:Nat):Int)-1).toNat=l'.length by omega];have hg:(l'++[a]).getD l'.length 0=a:=by simp
  rw[hg];refine aA (af ?_);refine iL<|af<|iL ?_;rw[bG (n:=((s.n:Nat):Int)-1)];refine ei ae ae ae<|af ?_;have e1:(if s.c=(0:Int).toNat then s.a else s.a.map fun b=>fa b ((0:Int).toNat*1))=s.a:=by
   split;·rfl
   ·cases s.a<;>rfl
  have e2:((s.n:Int)-1).toNat-(0:Int).toNat=l'.length:=by omega
  rw[e1,e2,show s.c-(0:Int).toNat=s.c from rfl];refine iT ?_;exact Tr.imp tk aw.I4<|Tr.close ar (iM.cl)<|rT (.inr ⟨l',a,rfl,rfl,rfl⟩)
def fI(t ph room:Nat)(q:Mk.St):aD:=fun h=>∃i:Nat×Nat,star [au t [pA i.1,pA ph,pA i.2,i64 q.deep],cq i.1 q.m,iM i.2 q.gj room q.over] h
theorem fI.op{t ph room:Nat}{q:Mk.St}(k:Take L (fI t ph room q) L')(h:∀pb ps:Nat,Tr ρ0 ρ (au t [pA pb,pA ph,pA ps,i64 q.deep]::cq pb q.m::iM ps q.gj room q.over::L') T Post):Tr ρ0 ρ L T Post:=
 Tr.iW (M:=fun i:Nat×Nat=>[au t [pA i.1,pA ph,pA i.2,i64 q.deep],cq i.1 q.m,iM i.2 q.gj room q.over]) (c:=fun _=>True) k (fun _ ⟨i,h⟩=>⟨i,trivial,h⟩) fun i _=>h i.1 i.2
theorem fI.cl{t ph room pb ps:Nat}{m:List Bool}{gj:List Int}{over:Bool}{deep:Int}(h:HP)(H:star [au t [pA pb,pA ph,pA ps,i64 deep],cq pb m,iM ps gj room over] h):fI t ph room ⟨m,gj,over,deep⟩ h:=⟨(pb,ps),H⟩
namespace Mk
structure Ok(S:aJ)(room:Nat)(q:St):Prop where
 len:q.m.length=S.ws.length
 small:q.gj.length≤room
theorem Ok.one{S:aJ}{room:Nat}{q:St}(h:Ok S room q)(x:Int):Ok S room (Mk.one S room q x):=by
 refine⟨by rw[IJ];exact h.len,?_⟩;unfold Mk.one;split;·exact h.small
 ·split;·exact h.small
  ·exact(zQ h.small).1
theorem Ok.many{S:aJ}{room:Nat}:∀(l:List Int) {q:St},Ok S room q→Ok S room (l.foldl (Mk.one S room) q)
 |[],_,h=>h
 |x::l,_,h=>Ok.many l (h.one x)
theorem Inv.ok{S:aJ}{cs:List aX}{room:Nat}{m0:List Bool}{R:Int→Prop}{c:Nat}{q:St}{E:List Int}(h:Inv S cs room m0 R c q E):Ok S room q:=⟨h.len,h.small⟩
end Mk
theorem tp(t ph room:Nat)(hr:room≤4096)(S:aJ)(cs:List aX)(hw:aY S cs)(q:Mk.St)(hq:Mk.Ok S room q)(x:Int):Gl.Spec ρ Zp 252 [pA t,i64 x] [fI t ph room q,aF ph S cs] (.many [])
  fun _ M=>M=[fI t ph room (Mk.one S room q x),aF ph S cs]:=by
 refine So (F.mark.cX.one.calls _ x) fun R=>?_;obtain⟨m,gj,over,deep⟩:=q;have hlen:=hq.len;have hsm:=hq.small;dsimp only at hlen hsm;refine af (fI.op tk fun pb ps=>?_);refine iL<|cE (qY _ m x)<|ag (fun h=>?_) (fun h=>?_)
 ·have e:Mk.one S room ⟨m,gj,over,deep⟩ x=⟨m,gj,over,deep⟩:=by unfold Mk.one;rw[if_pos h]
  rw[e];refine tC (fI.cl) ?_;exact rT rfl
 ·refine iN<|cE (du _ S _ hw x)<|aq fun b7=>?_;rw[EX];cases hh:Ob.head S x with
  |none=>
   have e:Mk.one S room ⟨m,gj,over,deep⟩ x=⟨m,gj,over,deep⟩:=by unfold Mk.one;grind
   rw[e];refine iT<|bT ?_;refine tC (fI.cl) ?_;exact rT rfl
  |some hd=>
   have ho:Mk.obj S x:=by unfold Mk.obj;rw[hh];rfl
   obtain⟨g1,g2⟩:=Mk.ke hw ho;have e:Mk.one S room ⟨m,gj,over,deep⟩ x=⟨m.set x.toNat true,Mk.push room gj x,over||decide (room≤gj.length),if((Mk.push room gj x).length:Int)>deep then((Mk.push room gj x).length:Int)else deep⟩:=by unfold Mk.one;grind
   rw[e];refine iT<|ak rfl (af ?_);refine iL<|aq fun b10=>Rd.bk (m:=1) (vs:=([x]:List _).map _) rfl tk fun ρ1 hle1 ro1=>cE (mT _ m _ ⟨oA b10,1,1⟩ [x] ro1 bu) ?_;have hok:Sp.kR m [x]=true:=by unfold Sp.kR;simp;omega
   rw[if_pos hok,show Sp.kf m true [x]=m.set x.toNat true from rfl];refine iN<|aq fun b14=>Rd.bk (m:=1) (vs:=([x]:List _).map _) rfl tk fun ρ2 hle2 ro2=>ai (Ap _ _ _ _ x _ ro2 hsm hr) ar ?_;rintro r M rfl;refine aA (aK [au t [pA pb,pA ph,pA ps,i64 deep]] ar (af ?_));refine jL<|af (hP t 2 _ ?_);apply cE (sn _ _ _ _);refine aS ar (af ?_);refine cz (off:=3) bL tk bu rfl<|tC (fI.cl (t:=t) (deep:=if((Mk.push room gj x).length:Int)>deep then((Mk.push room gj x).length:Int)else deep)) ?_;exact rT rfl
theorem tz{S:aJ}{cs:List aX}(hw:aY S cs)(a:Int):(Ob.refs S cs a).length<2^40:=by
 unfold Ob.refs;split;·simp
 ·rename_i hd hh;obtain⟨_,_,_,_,_,g,_⟩:=Ob.bU hw hh;have:=Sp.cb g;split
  ·split
   ·rename_i c hc;have hin:c∈cs:=by
     unfold Sp.iI at hc;split at hc;·exact List.mem_of_getElem? hc
     ·cases hc
    have:=hw.refs c hin;omega
   ·simp
  ·split;·unfold Sp.upto;simp;omega
   ·split<;>simp
theorem oE(t ph room:Nat)(hr:room≤4096)(S:aJ)(cs:List aX)(hw:aY S cs)(q:Mk.St)(hq:Mk.Ok S room q)(a:Int):Gl.Spec ρ Zp 256 [pA t,i64 a] [fI t ph room q,aF ph S cs] (.many [])
  fun _ M=>M=[fI t ph room (Mk.fields S cs room q a),aF ph S cs]:=by
 refine So (F.mark.cX.fields.calls _ a) fun R=>af (fI.op tk fun pb ps=>?_);refine iL<|tC (fI.cl) ?_;refine ai (sI _ S _ hw a) ar ?_;rintro r M ⟨hrn,rfl⟩;have hrl:=tz hw a;unfold Mk.fields Mk.kids;generalize Ob.refs S cs a=xs at*;refine Tr.cL tk fun ρ1 hle1 ro=>Tr.take (A:=fI t _ _ q) tk<|aM (fun m u M=>(fun(i:Int)=>M=fI t ph room (((xs.take i.toNat).filterMap (Mk.sO S a)).foldl (Mk.one S room) q)::aF ph S cs::R∧0≤i∧i≤xs.length∧m=xs.length-i.toNat) u.1) xs.length ?_ ?_;·simp
 ·rintro m ⟨(i:Int),⟨⟩⟩ M ⟨rfl,i0,i1,rfl⟩ X hX;refine ag (fun h=>?_) (fun h=>?_)
  ·replace h:i<(r.n:Int):=oT h;have hi:i.toNat<xs.length:=by omega
   have ht:xs.take (i+1).toNat=xs.take i.toNat++[xs.getD i.toNat 0]:=by rw[show(i+1).toNat=i.toNat+1 by omega,aE 0 hi]
   apply cC ro i0 ae;generalize xs.getD i.toNat 0=f at*;have hok:=hq.many ((xs.take i.toNat).filterMap (Mk.sO S a));have hstep:((xs.take (i+1).toNat).filterMap (Mk.sO S a)).foldl (Mk.one S room) q=if(Ob.get S a f).2=0 then Mk.one S room (((xs.take i.toNat).filterMap (Mk.sO S a)).foldl (Mk.one S room) q) (Ob.get S a f).1 else((xs.take i.toNat).filterMap (Mk.sO S a)).foldl (Mk.one S room) q:=by
    rw[ht,List.filterMap_append,List.foldl_append];by_cases hc:(Ob.get S a f).2=0;·rw[if_pos hc,show[f].filterMap (Mk.sO S a)=[(Ob.get S a f).1] by simp[Mk.sO,hc]];rfl
    ·rw[if_neg hc,show[f].filterMap (Mk.sO S a)=[] by simp[Mk.sO,hc]];rfl
   generalize((xs.take i.toNat).filterMap (Mk.sO S a)).foldl (Mk.one S room) q=q1 at*;refine af (fI.op tk fun pb ps=>?_);refine iL<|tC (fI.cl) ?_;apply cE (iC _ S _ hw a f);rw[bG (n:=i+1)];refine ag (fun h2=>?_) (fun h2=>?_);·have h2:(Ob.get S a f).2=0:=eq_of_beq h2;apply ai (tp t _ _ hr S _ hw _ hok (Ob.get S a f).1) ar;rintro x' M rfl;refine hX _ _ _ ae ⟨?_,bq,bq,rfl⟩;grind
   ·have h2:(Ob.get S a f).2≠0:=by simpa using h2
    refine Tr.take (A:=fI t _ _ q1) tk<|hX _ _ _ ae ⟨?_,bq,bq,rfl⟩;grind
  ·replace h:¬i<(r.n:Int):=oF h;rw[List.take_of_length_le ae];exact rT rfl
theorem ng(t ph room:Nat)(hr:room≤4096)(S:aJ)(cs:List aX)(hw:aY S cs){m0:List Bool}{RR:Int→Prop}{c:Nat}{E:List Int}(hm0:Mk.ju S cs m0)(hR:∀a,RR a→∀b∈Mk.kids S cs a,Mk.obj S b→RR b)(q:Mk.St)(H:Mk.Inv S cs room m0 RR c q E)(hc:q.m.count false≤c):
  Gl.Spec ρ Zp 253 [pA t] [fI t ph room q,aF ph S cs] (.many [])
  fun _ M=>∃q',M=[fI t ph room q',aF ph S cs]∧Mk.Inv S cs room m0 RR c q' E∧q'.gj=[]∧q'.m.count false≤q.m.count false∧∀a,Sp.has q.m a=true→Sp.has q'.m a=true:=by
 refine So (F.mark.cX.drain.calls _) fun R=>?_;have pop:∀(q1:Mk.St) {k:RT IB→Tree},Mk.Inv S cs room m0 RR c q1 E→
   (q1.gj=[]→Tr ρ ρ (fI t ph room q1::aF ph S cs::R) (k ((0:Int),false,())) (SP (.many []) (fun _ M=>∃q',M=[fI t ph room q',aF ph S cs]∧Mk.Inv S cs room m0 RR c q' E∧q'.gj=[]∧q'.m.count false≤q.m.count false∧∀a,Sp.has q.m a=true→Sp.has q'.m a=true) R))→
   (∀l a,q1.gj=l++[a]→Tr ρ ρ (fI t ph room {q1 with gj:=l}::aF ph S cs::R) (k (a,true,())) (SP (.many []) (fun _ M=>∃q',M=[fI t ph room q',aF ph S cs]∧Mk.Inv S cs room m0 RR c q' E∧q'.gj=[]∧q'.m.count false≤q.m.count false∧∀a,Sp.has q.m a=true→Sp.has q'.m a=true) R))→
   Tr ρ ρ (fI t ph room q1::aF ph S cs::R) (nn (oA t) fun a1=>ld (.l .ptr) (fa a1 2) fun(x2:Option Addr)=>call Zp 297 [.pointer x2] IB k) (SP (.many []) (fun _ M=>∃q',M=[fI t ph room q',aF ph S cs]∧Mk.Inv S cs room m0 RR c q' E∧q'.gj=[]∧q'.m.count false≤q.m.count false∧∀a,Sp.has q.m a=true→Sp.has q'.m a=true) R):=fun q1 k H1 h0 h1=>by
  have hsm:=H1.small;refine af (fI.op tk fun pb ps=>?_);refine iL<|ai (D3 _ q1.gj _ _ ae) ar ?_;rintro x' M (⟨e1,rfl,rfl⟩|⟨l,a,e1,rfl,rfl⟩);·exact tC (fI.cl)<|h0 e1
  ·exact tC (fI.cl)<|h1 l a e1
 have htodo:∀(q2:Mk.St) (l:List Int) (a:Int),q2.gj=l++[a]→Mk.todo {q2 with gj:=l}+1=Mk.todo q2:=fun q2 l a e=>by unfold Mk.todo;grind
 refine pop q H ?g1 ?g2;case' g1=>
  intro e;refine aM (fun m u M=>(fun(bM:Int) (ok:Bool)=>∃q1,M=fI t ph room q1::aF ph S cs::R∧m=(if ok=true then Mk.todo q1+1 else 0)∧q1.m.count false≤q.m.count false∧(∀a,Sp.has q.m a=true→Sp.has q1.m a=true)∧
   ((ok=false∧q1.gj=[]∧Mk.Inv S cs room m0 RR c q1 E)∨(ok=true∧Mk.Inv S cs room m0 RR c q1 (bM::E)∧Sp.has q1.m bM=true))) u.1 u.2.1) 0 ⟨q,rfl,rfl,Nat.le_refl _,fun _ h=>h,.inl ⟨rfl,e,H⟩⟩ ?_
 case' g2=>
  intro l a e;refine aM (fun m u M=>(fun(bM:Int) (ok:Bool)=>∃q1,M=fI t ph room q1::aF ph S cs::R∧m=(if ok=true then Mk.todo q1+1 else 0)∧q1.m.count false≤q.m.count false∧(∀a,Sp.has q.m a=true→Sp.has q1.m a=true)∧
   ((ok=false∧q1.gj=[]∧Mk.Inv S cs room m0 RR c q1 E)∨(ok=true∧Mk.Inv S cs room m0 RR c q1 (bM::E)∧Sp.has q1.m bM=true))) u.1 u.2.1) (Mk.todo {q with gj:=l}+1) ⟨{q with gj:=l},rfl,rfl,Nat.le_refl _,fun _ h=>h,.inr ⟨rfl,(H.pop e).1,(H.pop e).2⟩⟩ ?_
 all_goals
  rintro m ⟨(bM:Int),(ok:Bool),⟨⟩⟩ M ⟨q1,rfl,rfl,hcnt,hmono,hcase⟩ X hX;rcases hcase with ⟨rfl,e1,H1⟩|⟨rfl,H1,hat⟩;·exact bF<|rT ⟨q1,rfl,H1,e1,hcnt,hmono⟩
  ·refine bT ?_;have hok:=H1.ok;obtain⟨i1,i2,i3,i4⟩:=H1.fields hw hm0 hR hat ae;apply ai (oE t _ _ hr S _ hw _ hok _) ar;rintro x' M rfl;generalize Mk.fields S cs room q1 bM=q2 at*;refine pop _ i1 (fun e2=>?_) (fun l2 a2 e2=>?_);·exact hX 0 _ _ bu ⟨q2,rfl,rfl,ae,fun a h=>i4 a (hmono a h),.inl ⟨rfl,e2,i1⟩⟩
   ·have:=htodo q2 l2 a2 e2;exact hX (Mk.todo {q2 with gj:=l2}+1) _ _ (by rw[if_pos rfl];omega) ⟨{q2 with gj:=l2},rfl,rfl,bq,fun a h=>i4 a (hmono a h),.inr ⟨rfl,(i1.pop e2).1,(i1.pop e2).2⟩⟩
theorem uy(t ph room:Nat)(q:Mk.St)(hl:q.m.length≤16384):Gl.Spec ρ Zp 211 [pA t] [fI t ph room q] RS
  fun r M=>M=[aw r 1 ((Mk.all q.m).map i64),fI t ph room q]:=by
 refine So (F.mark.cX.sW.calls _) fun R=>?_;try simp only[c8,c9]
 obtain⟨m,gj,over,deep⟩:=q;dsimp only at hl⊢;refine ak rfl (af (fI.op tk fun pb ps=>?_));refine iL<|cE (jH _ m 0 _ hl) ?_;refine Tr.take (A:=au t [pA pb,pA ph,pA ps,i64 deep]) tk (Tr.cg 1 ?_);let pt:Nat→List Int:=fun p=>((List.range p).filter fun i=>m.getD i false).map fun i:Nat=>(i:Int);have hpt:∀p k:Nat,p≤k→(∀j,p≤j→j<k→m.getD j false≠true)→pt k=pt p:=fun p k hpk hno=>by
  obtain⟨d,rfl⟩:=Nat.exists_eq_add_of_le hpk;show((List.range (p+d)).filter _).map _=_;rw[List.range_add,List.filter_append,List.map_append];have:(List.map (fun x=>p+x) (List.range d)).filter (fun i=>m.getD i false)=[]:=by simp_all
  rw[this];simp[pt]
 have hpl:∀p,(pt p).length≤p:=fun p=>by grind
 have hps:∀k,m.getD k false=true→pt (k+1)=pt k++[(k:Int)]:=fun k h=>by show((List.range (k+1)).filter _).map _=_;rw[List.range_succ,List.filter_append,List.map_append,List.filter_cons_of_pos (by exact h)];rfl
 refine aM (fun n u M=>(fun s bM=>∃p:Nat,M=aw s 1 ((pt p).map i64)::au t [pA pb,pA ph,pA ps,i64 deep]::cq pb m::iM ps gj room over::R∧bM=Sp.next m p true∧p≤m.length∧n=m.length-p) u.1 u.2.1) m.length ?_ ?_;·grind
 ·rintro n ⟨(s:av),(bM:Int),⟨⟩⟩ M ⟨p,rfl,hat,hp,rfl⟩ X hX;dsimp only at hat hX⊢;rcases Sp.jy m true p with ⟨g1,g2⟩|⟨k,g1,g2,g3,g4,g5⟩
  ·apply ak (decide_eq_false (show¬bM≥0 by omega));have e:pt p=Mk.all m:=by show _=pt m.length;grind
   rw[e];refine tC (fI.cl) ?_;exact rT rfl
  ·rw[g1]at hat;apply bg (decide_eq_true (show bM≥0 by omega));have hlp:=hpl p;refine dm bJ tk ae fun r hr=>iN ?_;rw[bG (n:=bM+1)];apply cE (jH _ m _ _ hl);have e:pt p++[bM]=pt (k+1):=by rw[hps k g4,hpt p k g2 g5,hat]
   rw[e];refine Tr.take (A:=au t [pA pb,pA ph,pA ps,i64 deep]) tk (Tr.take (A:=aw r 1 _) tk ?_);refine hX _ _ _ ae ⟨k+1,rfl,?_,ae,rfl⟩;rw[hat];rfl
theorem oP(t ph room:Nat)(q:Mk.St)(x:Int):Gl.Spec ρ Zp 261 [pA t,i64 x] [fI t ph room q] RB
  fun r M=>r=Sp.has q.m x∧M=[fI t ph room q]:=by refine So (F.mark.cX.BB.calls _ x) fun R=>bg rfl (af (fI.op tk fun pb ps=>?_));refine iL<|cE (qY _ _ x) ?_;refine tC (fI.cl) ?_;exact rT
def Mk.DK(n:Nat):Mk.St:=⟨List.replicate n false,[],false,0⟩
theorem Fg(ph:Nat)(S:aJ)(cs:List aX)(hw:aY S cs)(n:Int)(h0:1≤n)(h1:n≤4096):Gl.Spec ρ Zp 204 [pA ph,i64 n] [aF ph S cs] PE
  fun r M=>∃t,r=(oA t,0,())∧M=[fI t ph n.toNat (Mk.DK S.ws.length),aF ph S cs]:=by refine So (F.mark.gB.calls _ n) fun R=>?_;have hl:=hw.wf.len;have hm:=hw.wf.fF;refine bF<|ai (wN n h0 h1) ar ?_;rintro x' M ⟨ps,rfl,rfl⟩;refine ak rfl (af (aF.op tk fun p1 pt=>?_));refine iL<|af (aP.op tk fun pa pp ms ml ls ll h3 h4 _ _=>?_);refine iL<|cE (rq _ _) ?_;refine tC (aP.cl h3 h4) ?_;refine tC (aF.cl)<|ai (vm S.ws.length ae ae) ar ?_;rintro x' M ⟨pb,rfl,rfl⟩;refine ak rfl (aq fun t=>?_);refine tC (fI.cl) ?_;exact rT ⟨t,rfl,rfl⟩
theorem Mk.CI{S:aJ}{cs:List aX}:Mk.ju S cs (Mk.DK S.ws.length).m:=by
 have h:∀a,Sp.has (Mk.DK S.ws.length).m a=false:=fun a=>by unfold Sp.has Mk.DK;grind
 exact⟨by simp[Mk.DK],fun a ha=>(by rw[h]at ha;cases ha),fun a ha=>(by rw[h]at ha;cases ha)⟩
theorem Mk.LB{n:Nat}(a:Int):Sp.has (Mk.DK n).m a=false:=by unfold Sp.has Mk.DK;grind
structure Mk.Rest(S:aJ)(cs:List aX)(room:Nat)(q:Mk.St):Prop where
 closed:Mk.ju S cs q.m
 gj:q.gj=[]
 over:q.over=false
 qX:0≤q.deep
 px:q.deep≤room
theorem Mk.LH{S:aJ}{cs:List aX}{room:Nat}:Mk.Rest S cs room (Mk.DK S.ws.length):=⟨Mk.CI,rfl,rfl,by simp[Mk.DK],by simp[Mk.DK]⟩
theorem vR(t ph room:Nat)(hr:room≤4096)(S:aJ)(cs:List aX)(hw:aY S cs)(q:Mk.St)(H:Mk.Rest S cs room q)(z:av)(l:List Int)(ro:fx ρ z 1 (l.map i64))(hl:l.length<2^40):
  Gl.Spec ρ Zp 206 [pA t,.slice z.a z.n z.c] [fI t ph room q,aF ph S cs] (.many [])
  fun _ M=>∃q',M=[fI t ph room q',aF ph S cs]∧Mk.Rest S cs room q'∧∀a,Sp.has q'.m a=true↔(Sp.has q.m a=true∨Mk.pT S cs l a):=by
 refine So (F.mark.cX.Mark.calls _ z) fun R=>?_;have hzn:=ro.len;have hwl:=hw.wf.len;have hwm:=hw.wf.fF;have hm0:=H.closed;have hR:∀a,Mk.pT S cs l a→∀b∈Mk.kids S cs a,Mk.obj S b→Mk.pT S cs l b:=fun a ha b hb ho=> .step ha hb ho;have hI0:Mk.Inv S cs room q.m (Mk.pT S cs l) (q.m.count false) q []:=⟨hm0.len,fun _ h=>h,fun _ h=> .inl h,hm0.obj,fun _ a ha=> .inr (.inr (hm0.sO a ha)),fun a ha=>(by rw[H.gj]at ha;cases ha),by rw[H.gj];simp,H.qX,H.px,fun h=>(by rw[H.over]at h;cases h)⟩;refine bF<|aM (fun m u M=>(fun(i:Int)=>∃q1,M=fI t ph room q1::aF ph S cs::R∧0≤i∧i≤l.length∧m=l.length-i.toNat∧q1.gj=[]∧Mk.Inv S cs room q.m (Mk.pT S cs l) (q.m.count false) q1 []∧q1.m.count false≤q.m.count false∧∀a∈l.take i.toNat,Mk.obj S a→Sp.has q1.m a=true) u.1) l.length ?_ ?_;·exact⟨q,rfl,bu,bq,bu,H.gj,hI0,Nat.le_refl _,bu⟩
 ·rintro m ⟨(i:Int),⟨⟩⟩ M ⟨q1,rfl,i0,i1,rfl,e1,H1,hc1,hroots⟩ X hX;refine ag (fun h=>?_) (fun h=>?_)
  ·replace h:i<(z.n:Int):=oT h;have hi:i.toNat<l.length:=by omega
   have hmem:l.getD i.toNat 0∈l:=by grind
   have ht:l.take (i+1).toNat=l.take i.toNat++[l.getD i.toNat 0]:=by rw[show(i+1).toNat=i.toNat+1 by omega,aE 0 hi]
   apply cC ro i0 ae;generalize l.getD i.toNat 0=x at*;apply ai (tp t _ _ hr S _ hw _ H1.ok x) ar;rintro x' M rfl;have H2:=H1.one hw (fun ho=> .inr (.root hmem ho)) hc1;have hc2:=Mk.rU (room:=room) hw H1.len x;have hmono:∀a,Sp.has q1.m a=true→Sp.has (Mk.one S room q1 x).m a=true:=fun a h=>Mk.um S room q1 x hw H1.len h;have hx:Mk.obj S x→Sp.has (Mk.one S room q1 x).m x=true:=Mk.wY hw H1.len;generalize Mk.one S room q1 x=q2 at*;apply ai (ng t _ _ hr S _ hw hm0 hR _ H2 ae) ar;rintro x' M ⟨q3,rfl,H3,e3,hc3,hmono3⟩;rw[bG (n:=i+1)];refine hX _ _ _ ae ⟨q3,rfl,bq,bq,rfl,e3,H3,ae,fun a ha ho=>?_⟩;grind
  ·replace h:¬i<(z.n:Int):=oF h;rw[List.take_of_length_le ae]at hroots;clear hX;apply aM (fun m u M=>∃q1 c,M=fI t ph room q1::aF ph S cs::R∧m=q1.m.count false+(if q1.over=true then 1 else 0)∧q1.gj=[]∧Mk.Inv S cs room q.m _ c q1 []∧∀a∈l,Mk.obj S a→Sp.has q1.m a=true) _ ⟨q1,_,rfl,rfl,e1,H1,hroots⟩;rintro m ⟨⟩ M ⟨q1,c,rfl,rfl,e1,H1,hroots⟩ X hX;refine af (fI.op tk fun pb ps=>?_);refine iL<|cE (tq _ _ _ _)<|ag (fun ho=>?_) (fun ho=>?_)
   ·refine iN<|ai (sj _ _ _ _) ar ?_;rintro x' M rfl;refine tC (fI.cl) ?_;have H2:Mk.Inv S cs room q.m _ (q1.m.count false) ⟨q1.m,q1.gj,false,q1.deep⟩ (Mk.all q1.m):=⟨H1.len,H1.rj,H1.new,H1.obj,fun _ a ha=> .inr (.inl (Mk.ko.mpr ha)),H1.gj,H1.small,H1.qX,H1.px,fun h=>by cases h⟩;have hlen1:=H1.len;refine ai (uy t _ _ ⟨q1.m,q1.gj,false,q1.deep⟩ bq) ar ?_;rintro r M rfl;have hal:=Mk.gp (m:=q1.m);have hmem:∀a∈Mk.all q1.m,Sp.has q1.m a=true:=fun a ha=>Mk.ko.mp ha;generalize Mk.all q1.m=E at*;refine Tr.fu tk fun hrn=>Tr.take (A:=aF _ S _) tk (Tr.take (A:=fI t _ _ ⟨q1.m,q1.gj,false,q1.deep⟩) tk ?_);refine aM (fun m u M=>(fun(i:Int)=>∃q2,M=fI t ph room q2::aF ph S cs::aw r 1 (E.map i64)::R∧0≤i∧i≤E.length∧m=E.length-i.toNat∧q2.gj=[]∧Mk.Inv S cs room q.m (Mk.pT S cs l) (q1.m.count false) q2 (E.drop i.toNat)∧q2.m.count false≤q1.m.count false∧∀a,Sp.has q1.m a=true→Sp.has q2.m a=true) u.1) E.length ?_ ?_;·grind
    ·rintro m ⟨(i:Int),⟨⟩⟩ M ⟨q2,rfl,i0,i1,rfl,e2,H3,hc2,hmono⟩ Y hY;refine ag (fun h=>?_) (fun h=>?_)
     ·replace h:i<(r.n:Int):=oT h;have hi:i.toNat<E.length:=by omega
      have hin:E.getD i.toNat 0∈E:=by grind
      rw[hE 0 hi]at H3;apply bt tk i0 ae;generalize E.getD i.toNat 0=x at*;have hx:=hmono x (hmem x hin);obtain⟨j1,j2,j3,j4⟩:=H3.fields hw hm0 hR hx ae;apply ai (oE t _ _ hr S _ hw _ H3.ok x) ar;rintro x' M rfl;generalize Mk.fields S cs room q2 x=q3 at*;apply ai (ng t _ _ hr S _ hw hm0 hR _ j1 ae) ar;rintro x' M ⟨q4,rfl,H4,e4,hc4,hmono4⟩;rw[bG (n:=i+1)];refine hY _ _ _ ae ⟨q4,rfl,bq,bq,rfl,e4,?_,ae,fun a ha=>hmono4 a (j4 a (hmono a ha))⟩;grind
     ·replace h:¬i<(r.n:Int):=oF h;rw[List.drop_eq_nil_of_le ae]at H3;refine tD (aw r 1 _)<|hX _ _ _ ?_ ⟨q2,_,rfl,rfl,e2,H3,fun a ha ho=>hmono a (hroots a ha ho)⟩;split;·rename_i ho2;have:=H3.lost ho2;omega
      ·omega
   ·refine tC (fI.cl) ?_;have hcl:=H1.over hm0 e1 ho;refine ax (x:=()) rfl ⟨q1,rfl,⟨hcl,e1,ho,H1.qX,H1.px⟩,fun a=>⟨H1.new a,?_⟩⟩ ar bE;rintro(h|h);·exact H1.rj a h
    ·exact hcl.LQ hroots h
theorem Mk.has_eq{m m':List Bool}(hl:m.length=m'.length)(h:∀a,Sp.has m a=true↔Sp.has m' a=true):m=m':=by refine Mk.It hl fun a=>?_;grind
theorem aw.emp(b m:Nat)(h:HP)(H:au b [] h):aw ⟨oA b,0,0⟩ m [] h:= .inr ⟨b,0,[],[],rfl,rfl,by simp,by simp,by simp,H⟩
theorem Mk.p6{S:aJ}{cs:List aX}{a b:Int}:b∈Mk.kids S cs a↔∃f∈Ob.refs S cs a,(Ob.get S a f).2=0∧(Ob.get S a f).1=b:=by
 unfold Mk.kids;rw[List.mem_filterMap];constructor;·rintro⟨f,hf,h⟩;unfold Mk.sO at h;grind
 ·rintro⟨f,hf,h0,h⟩;exact⟨f,hf,by unfold Mk.sO;rw[if_pos h0,h]⟩
theorem tU{M M':List aD}{s:av}{xs:List Int}{i:Int}{f:Int→Tree}(t0:Take L (aw s 1 (xs.map i64)) L')(t:Take M (aw s 1 (xs.map i64)) M')(h0:0≤i)(h1:i<xs.length)(h:Tr ρ0 ρ L (f (xs.getD i.toNat 0)) Post):
  Tr ρ0 ρ L (ix s.a s.n i 1 fun a=>rb (Sat ρ M) (.l kI) a f) Post:=by
 refine Tr.fu t0 fun hn=>bD t0 h0 ae fun a0 ha=>?_;intro hle w hw;refine⟨xs.getD _ 0,fun w' hw'=>?_,h hle w hw⟩;rcases(hw'.perm t.perm).sl with ⟨g1,_⟩|⟨b,off,pre,rest,g1,g2,g3,g4,g5,g6⟩;·rw[ha]at g1;cases g1
 ·rw[ha]at g1;injection g1 with g1;obtain⟨ty,hb⟩:=g6.cl;rw[g1,aO,Nat.mul_one];apply cell_of hb;rw[List.getElem?_toArray,←g2,m8 fC];exact getD_map ae
theorem Mk.mC{S:aJ}{cs:List aX}(hw:aY S cs):¬Mk.obj S 0:=fun h=>by
 unfold Mk.obj at h;cases hh:Ob.head S 0 with
 |none=>rw[hh]at h;cases h
 |some hd=>
  obtain⟨n,w,e,hf,_⟩:=Ob.bU hw hh;have hn:n=0:=by omega
  subst hn;have h0:=(hw.wf.res 0).mpr rfl;have hl:=hw.wf.len;have hp:=hw.wf.pos;have:=Sp.fb (S:=S) (n:=0) ae (fun c l h=>by rw[h0]at h;cases h);rw[this,Sp.uZ]at hf;·cases hf
  grind
theorem AT{A:List aD}(t ph room:Nat)(hr:room≤4096)(S:aJ)(cs:List aX)(hw:aY S cs)(q:Mk.St)(H:Mk.Rest S cs room q)(z:av)(l:List Int)(ro:Rd ρ A z 1 (l.map i64))(hl:l.length<2^40):
  Gl.Spec ρ Zp 206 [pA t,.slice z.a z.n z.c] (fI t ph room q::aF ph S cs::A) (.many [])
  fun _ M=>∃q',M=fI t ph room q'::aF ph S cs::A∧Mk.Rest S cs room q'∧∀a,Sp.has q'.m a=true↔(Sp.has q.m a=true∨Mk.pT S cs l a):=by
 refine So (F.mark.cX.Mark.calls _ z) fun R=>?_;have hzn:=ro.len;have hwl:=hw.wf.len;have hwm:=hw.wf.fF;have hm0:=H.closed;have hR:∀a,Mk.pT S cs l a→∀b∈Mk.kids S cs a,Mk.obj S b→Mk.pT S cs l b:=fun a ha b hb ho=> .step ha hb ho;have hI0:Mk.Inv S cs room q.m (Mk.pT S cs l) (q.m.count false) q []:=⟨hm0.len,fun _ h=>h,fun _ h=> .inl h,hm0.obj,fun _ a ha=> .inr (.inr (hm0.sO a ha)),fun a ha=>(by rw[H.gj]at ha;cases ha),by rw[H.gj];simp,H.qX,H.px,fun h=>(by rw[H.over]at h;cases h)⟩;refine bF<|aM (fun m u M=>(fun(i:Int)=>∃q1,M=fI t ph room q1::aF ph S cs::(A++R)∧0≤i∧i≤l.length∧m=l.length-i.toNat∧q1.gj=[]∧Mk.Inv S cs room q.m (Mk.pT S cs l) (q.m.count false) q1 []∧q1.m.count false≤q.m.count false∧∀a∈l.take i.toNat,Mk.obj S a→Sp.has q1.m a=true) u.1) l.length ?_ ?_;·exact⟨q,rfl,bu,bq,bu,H.gj,hI0,Nat.le_refl _,bu⟩
 ·rintro m ⟨(i:Int),⟨⟩⟩ M ⟨q1,rfl,i0,i1,rfl,e1,H1,hc1,hroots⟩ X hX;refine ag (fun h=>?_) (fun h=>?_)
  ·replace h:i<(z.n:Int):=oT h;have hi:i.toNat<l.length:=by omega
   have hmem:l.getD i.toNat 0∈l:=by grind
   have ht:l.take (i+1).toNat=l.take i.toNat++[l.getD i.toNat 0]:=by rw[show(i+1).toNat=i.toNat+1 by omega,aE 0 hi]
   apply jg ro (aI.ly (aI.ly (aI.app A R))) i0 ae;generalize l.getD i.toNat 0=x at*;apply ai (tp t _ _ hr S _ hw _ H1.ok x) ar;rintro x' M rfl;have H2:=H1.one hw (fun ho=> .inr (.root hmem ho)) hc1;have hc2:=Mk.rU (room:=room) hw H1.len x;have hmono:∀a,Sp.has q1.m a=true→Sp.has (Mk.one S room q1 x).m a=true:=fun a h=>Mk.um S room q1 x hw H1.len h;have hx:Mk.obj S x→Sp.has (Mk.one S room q1 x).m x=true:=Mk.wY hw H1.len;generalize Mk.one S room q1 x=q2 at*;apply ai (ng t _ _ hr S _ hw hm0 hR _ H2 ae) ar;rintro x' M ⟨q3,rfl,H3,e3,hc3,hmono3⟩;rw[bG (n:=i+1)];refine hX _ _ _ ae ⟨q3,rfl,bq,bq,rfl,e3,H3,ae,fun a ha ho=>?_⟩;grind
  ·replace h:¬i<(z.n:Int):=oF h;rw[List.take_of_length_le ae]at hroots;clear hX;apply aM (fun m u M=>∃q1 c,M=fI t ph room q1::aF ph S cs::_∧m=q1.m.count false+(if q1.over=true then 1 else 0)∧q1.gj=[]∧Mk.Inv S cs room q.m _ c q1 []∧∀a∈l,Mk.obj S a→Sp.has q1.m a=true) _ ⟨q1,_,rfl,rfl,e1,H1,hroots⟩;rintro m ⟨⟩ M ⟨q1,c,rfl,rfl,e1,H1,hroots⟩ X hX;refine af (fI.op tk fun pb ps=>?_);refine iL<|cE (tq _ _ _ _)<|ag (fun ho=>?_) (fun ho=>?_)
   ·refine iN<|ai (sj _ _ _ _) ar ?_;rintro x' M rfl;refine tC (fI.cl) ?_;have H2:Mk.Inv S cs room q.m _ (q1.m.count false) ⟨q1.m,q1.gj,false,q1.deep⟩ (Mk.all q1.m):=⟨H1.len,H1.rj,H1.new,H1.obj,fun _ a ha=> .inr (.inl (Mk.ko.mpr ha)),H1.gj,H1.small,H1.qX,H1.px,fun h=>by cases h⟩;have hlen1:=H1.len;refine ai (uy t _ _ ⟨q1.m,q1.gj,false,q1.deep⟩ bq) ar ?_;rintro r M rfl;have hal:=Mk.gp (m:=q1.m);have hmem:∀a∈Mk.all q1.m,Sp.has q1.m a=true:=fun a ha=>Mk.ko.mp ha;generalize Mk.all q1.m=E at*;refine Tr.fu tk fun hrn=>Tr.take (A:=aF _ S _) tk (Tr.take (A:=fI t _ _ ⟨q1.m,q1.gj,false,q1.deep⟩) tk ?_);refine aM (fun m u M=>(fun(i:Int)=>∃q2,M=fI t ph room q2::aF ph S cs::aw r 1 (E.map i64)::(A++R)∧0≤i∧i≤E.length∧m=E.length-i.toNat∧q2.gj=[]∧Mk.Inv S cs room q.m (Mk.pT S cs l) (q1.m.count false) q2 (E.drop i.toNat)∧q2.m.count false≤q1.m.count false∧∀a,Sp.has q1.m a=true→Sp.has q2.m a=true) u.1) E.length ?_ ?_;·grind
    ·rintro m ⟨(i:Int),⟨⟩⟩ M ⟨q2,rfl,i0,i1,rfl,e2,H3,hc2,hmono⟩ Y hY;refine ag (fun h=>?_) (fun h=>?_)
     ·replace h:i<(r.n:Int):=oT h;have hi:i.toNat<E.length:=by omega
      have hin:E.getD i.toNat 0∈E:=by grind
      rw[hE 0 hi]at H3;apply bt tk i0 ae;generalize E.getD i.toNat 0=x at*;have hx:=hmono x (hmem x hin);obtain⟨j1,j2,j3,j4⟩:=H3.fields hw hm0 hR hx ae;apply ai (oE t _ _ hr S _ hw _ H3.ok x) ar;rintro x' M rfl;generalize Mk.fields S cs room q2 x=q3 at*;apply ai (ng t _ _ hr S _ hw hm0 hR _ j1 ae) ar;rintro x' M ⟨q4,rfl,H4,e4,hc4,hmono4⟩;rw[bG (n:=i+1)];refine hY _ _ _ ae ⟨q4,rfl,bq,bq,rfl,e4,?_,ae,fun a ha=>hmono4 a (j4 a (hmono a ha))⟩;grind
     ·replace h:¬i<(r.n:Int):=oF h;rw[List.drop_eq_nil_of_le ae]at H3;refine tD (aw r 1 _)<|hX _ _ _ ?_ ⟨q2,_,rfl,rfl,e2,H3,fun a ha ho=>hmono a (hroots a ha ho)⟩;split;·rename_i ho2;have:=H3.lost ho2;omega
      ·omega
   ·refine tC (fI.cl) ?_;have hcl:=H1.over hm0 e1 ho;refine ax (x:=()) rfl ⟨q1,rfl,⟨hcl,e1,ho,H1.qX,H1.px⟩,fun a=>⟨H1.new a,?_⟩⟩ (.cons .here (.cons .here (aI.app A R))) bE;rintro(h|h);·exact H1.rj a h
    ·exact hcl.LQ hroots h
theorem _root_.Go.Gl.Tr.JP{A R:List aD}(t:aI L A R)(h:Tr ρ0 ρ R T Post):Tr ρ0 ρ L T Post:=fun hle w hw=>h hle w (hw.perm t.perm).tS
theorem D6{B:aD}{X X':List aD}(A:List aD)(h:Take X B X'):Take (A++X) B (A++X'):=by
 induction A with
 |nil=>exact h
 |cons _ A ih=>exact .skip ih
theorem Kj(p:Nat)(S:aJ)(lc:List (aX×av))(hw:Wf S):Gl.Spec ρ Zp 185 [pA p] [ct p S lc] RS
  fun r M=>r.n=S.ws.length∧M=[aw r 1 ((Mk.DK S.ws.length).m.map bv),ct p S lc]:=by
 refine So (F.aa.tQ.calls _) fun R=>?_;have hlen:=hw.len;have hmost:=hw.fF;refine af (ct.op tk fun ps q hq=>?_);refine iL<|af (ay.op tk fun sa sk sm sq ql hql=>?_);refine iL<|Tr.fu tk fun hsa=>?_;rw[hsa];refine tC (ay.cl hql) ?_;refine tC (ct.cl hq)<|mg (e:=4) (m:=1) (bytes:=1) (z:= .bool false) (by kernel_rfl) (by kernel_rfl) rfl ae ae ae fun b=>?_;have e:(List.replicate ((S.ws.length:Nat):Int).toNat (Value.cells (.bool false)).toList).flatten=(Mk.DK S.ws.length).m.map bv:=by rw[show(Value.cells (.bool false)).toList=[bv false]from rfl,z6,Int.toNat_natCast];simp[Mk.DK]
 rw[e,Int.toNat_natCast];exact rT
theorem KO(s:av)(m:List Bool)(hl:m.length≤16384):Gl.Spec ρ Zp 189 [.slice s.a s.n s.c] [aw s 1 (m.map bv)] RS
  fun r M=>M=[aw r 1 ((Mk.all m).map i64),aw s 1 (m.map bv)]:=by
 refine So (F.aa.Marks.sW.calls s) fun R=>?_;let pt:Nat→List Int:=fun p=>((List.range p).filter fun i=>m.getD i false).map fun i:Nat=>(i:Int);have hpl:∀p,(pt p).length≤p:=fun p=>by rw[List.length_map];exact Nat.le_trans (List.length_filter_le _ _) bu
 have hps:∀k,m.getD k false=true→pt (k+1)=pt k++[(k:Int)]:=fun k h=>by show((List.range (k+1)).filter _).map _=_;rw[List.range_succ,List.filter_append,List.map_append,List.filter_cons_of_pos (by exact h)];rfl
 have hpn:∀k,m.getD k false=false→pt (k+1)=pt k:=fun k h=>by show((List.range (k+1)).filter _).map _=_;rw[List.range_succ,List.filter_append,List.map_append,List.filter_cons_of_neg (by rw[h];simp)];simp[pt]
 refine Tr.vy tk fun hsn=>?_;rw[List.length_map]at hsn;refine Tr.cg 1<|aM (fun n u M=>(fun t (i:Int)=>M=aw t 1 ((pt i.toNat).map i64)::aw s 1 (m.map bv)::R∧0≤i∧i≤m.length∧n=m.length-i.toNat) u.1 u.2.1) m.length ?_ ?_;·exact⟨rfl,bu,bq,bu⟩
 ·rintro n ⟨(t:av),(i:Int),⟨⟩⟩ M ⟨rfl,i0,i1,rfl⟩ X hX;dsimp only at i0 i1 hX⊢;refine ag (fun h=>?_) (fun h=>?_)
  ·replace h:i<(s.n:Int):=oT h;apply jO tk i0 ae;rw[bG (n:=i+1)];have e1:(i+1).toNat=i.toNat+1:=by omega
   have hl1:=hpl i.toNat;refine ag (fun h2=>?_) (fun h2=>?_);·refine dm bJ tk ae fun r hr=>hX (m.length-(i+1).toNat) _ _ ae ⟨?_,bq,bq,rfl⟩;rw[e1,hps _ h2,show((i.toNat:Nat):Int)=i by omega]
   ·refine hX (m.length-(i+1).toNat) _ _ ae ⟨?_,bq,bq,rfl⟩;rw[e1,hpn _ h2]
  ·replace h:¬i<(s.n:Int):=oF h;have e:pt i.toNat=Mk.all m:=by show _=pt m.length;rw[show i.toNat=m.length by omega]
   rw[e];exact rT rfl
structure Rm(S:aJ)(cs:List aX)(m0:List Bool)(l:List Int)(m:List Bool)(tl:List Int)(i:Nat):Prop where
 len:m.length=S.ws.length
 rj:∀a,Sp.has m0 a=true→Sp.has m a=true
 new:∀a,Sp.has m a=true→Sp.has m0 a=true∨Mk.pT S cs l a
 obj:∀a,Sp.has m a=true→Mk.obj S a
 snd:∀a∈tl,Mk.obj S a→Sp.has m0 a=true∨Mk.pT S cs l a
 sO:∀a,Sp.has m a=true→∀b∈Mk.kids S cs a,Mk.obj S b→Sp.has m b=true∨b∈tl.drop i
 root:∀a∈l,Mk.obj S a→Sp.has m a=true∨a∈tl.drop i
 size:tl.length+1024*m.count false≤l.length+1024*S.ws.length
theorem Rm.skip{S:aJ}{cs:List aX}{m0:List Bool}{l:List Int}{m:List Bool}{tl:List Int}{i:Nat}(H:Rm S cs m0 l m tl i)(hi:i<tl.length)(hx:Mk.obj S (tl.getD i 0)→Sp.has m (tl.getD i 0)=true):Rm S cs m0 l m tl (i+1):=by
 have hd:=hE 0 hi;refine⟨H.len,H.rj,H.new,H.obj,H.snd,fun a ha b hb ho=>?_,fun a ha ho=>?_,H.size⟩
 ·rcases H.sO a ha b hb ho with h|h;·exact .inl h
  grind
 ·rcases H.root a ha ho with h|h;·exact .inl h
  grind
theorem Rm.mark{S:aJ}{cs:List aX}(hw:aY S cs){m0:List Bool}(hm0:Mk.ju S cs m0){l:List Int}{m:List Bool}{tl:List Int}{i:Nat}(H:Rm S cs m0 l m tl i)(hi:i<tl.length){x:Int}(hxx:tl.getD i 0=x)(ho:Mk.obj S x)(hn:m.getD x.toNat false=false)(hr:(Ob.refs S cs x).length≤1023):
  Rm S cs m0 l (m.set x.toNat true) (tl++(Ob.refs S cs x).map fun f=>(Ob.get S x f).1) (i+1)∧(m.set x.toNat true).count false+1=m.count false:=by
 obtain⟨g1,g2⟩:=Mk.ke hw ho;have hl:=H.len;have hd:tl.drop i=x::tl.drop (i+1):=by rw[←hxx];exact hE 0 hi
 have hc:=Mk.count_set ae hn;have hhas:∀a,Sp.has (m.set x.toNat true) a=_:=fun a=>Mk.km g1 ae;have hup:∀a,Sp.has m a=true→Sp.has (m.set x.toNat true) a=true:=fun a h=>by grind
 have hxin:x∈tl:=by grind
 have hsx:=H.snd x hxin ho;refine⟨⟨by simp[hl],fun a h=>hup a (H.rj a h),fun a h=>?_,fun a h=>?_,fun a h hoa=>?_,fun a h b hb hob=>?_,fun a h hoa=>?_,?_⟩,hc⟩
 ·rw[hhas,Bool.or_eq_true,decide_eq_true_iff]at h;rcases h with rfl|h;·exact hsx
  ·exact H.new a h
 ·rw[hhas,Bool.or_eq_true,decide_eq_true_iff]at h;rcases h with rfl|h;·exact ho
  ·exact H.obj a h
 ·rcases List.mem_append.mp h with h|h;·exact H.snd a h hoa
  ·obtain⟨f,hf,rfl⟩:=List.mem_map.mp h;by_cases he:(Ob.get S x f).2=0
   ·have hk:=Mk.p6.mpr ⟨f,hf,he,rfl⟩;rcases hsx with h|h;·exact .inl (hm0.sO x h _ hk hoa)
    ·exact .inr (.step h hk hoa)
   ·have:(Ob.get S x f).1=0:=by unfold Ob.get at he⊢;grind
    rw[this]at hoa;exact(Mk.mC hw hoa).elim
 ·rw[hhas,Bool.or_eq_true,decide_eq_true_iff]at h;rcases h with rfl|h;·obtain⟨f,hf,_,hv⟩:=Mk.p6.mp hb;grind
  ·rcases H.sO a h b hb hob with h'|h';·exact .inl (hup b h')
   grind
 ·rcases H.root a h hoa with h'|h';·exact .inl (hup a h')
  grind
 ·have:=H.size;grind
theorem Bg{S:aJ}{cs:List aX}(hw:aY S cs)(hc:∀c∈cs,c.2.length≤1023)(a:Int):(Ob.refs S cs a).length≤1023:=by
 unfold Ob.refs;split;·simp
 ·rename_i hd hh;obtain⟨_,_,_,_,_,g,_⟩:=Ob.bU hw hh;have:=Sp.cb g;split
  ·split
   ·rename_i c hc';have hin:c∈cs:=by
     unfold Sp.iI at hc';split at hc';·exact List.mem_of_getElem? hc'
     ·cases hc'
    exact hc c hin
   ·simp
  ·split;·unfold Sp.upto;simp;omega
   ·split<;>simp
theorem wQ(p:Nat)(S:aJ)(lc:List (aX×av))(hw:aY S (dK lc))(hk:Kn S (dK lc))(hln:∀x∈lc,x.2.n=x.1.2.length)(hcl:∀c∈dK lc,c.2.length≤1023)(s:av)(m:List Bool)(hm0:Mk.ju S (dK lc) m)(z:av)(l:List Int)(ro:fx ρ z 1 (l.map i64))(hl:l.length<2^30):
  Gl.Spec ρ Zp 186 [.slice s.a s.n s.c,pA p,.slice z.a z.n z.c] [aw s 1 (m.map bv),ct p S lc] (.many [])
  fun _ M=>∃m',M=[aw s 1 (m'.map bv),ct p S lc]∧Mk.ju S (dK lc) m'∧∀a,Sp.has m' a=true↔(Sp.has m a=true∨Mk.pT S (dK lc) l a):=by
 refine So (F.aa.Marks.Mark.calls s _ z) fun R=>?_;have hlen:=hw.wf.len;have hmost:=hw.wf.fF;refine aq fun b1=>Tr.imp (A':=aw ⟨oA b1,0,0⟩ 1 (([]:List _).map i64)) tk (aw.emp _ 1)<|bj (s:=⟨oA b1,0,0⟩) bJ tk (Rd.ro ro) fC fun r2 h2=>aM (fun n u M=>(fun t (i:Int)=>∃(m1:List Bool) (tl:List Int),M=aw t 1 (tl.map i64)::aw s 1 (m1.map bv)::ct p S lc::R∧0≤i∧i≤tl.length∧n=1025*m1.count false+(tl.length-i.toNat)∧Rm S (dK lc) m l m1 tl i.toNat) u.1 u.2.1) (1025*m.count false+l.length) ?_ ?_;·refine⟨m,l,rfl,bu,bq,bu,⟨hm0.len,fun _ h=>h,fun _ h=> .inl h,hm0.obj,fun a ha ho=> .inr (.root ha ho),fun a ha b hb ho=> .inl (hm0.sO a ha b hb ho),fun a ha _=> .inr (by simpa using ha),?_⟩⟩;have:=List.count_le_length (a:=false) (l:=m);have h3:=hm0.len;omega
 ·rintro n ⟨(t:av),(i:Int),⟨⟩⟩ M ⟨m1,tl,rfl,i0,i1,rfl,H⟩ X hX;dsimp only at i0 i1 H hX⊢;have hsz:=H.size;refine Tr.fu tk fun htn=>ag (fun h=>?_) (fun h=>?_)
  ·replace h:i<(t.n:Int):=oT h;have hi:i.toNat<tl.length:=by omega
   have e1:(i+1).toNat=i.toNat+1:=by omega
   refine bt tk i0 ae<|cE (ib p S _ hw _) ?_;rw[bG (n:=i+1)];cases hh:Ob.head S (tl.getD i.toNat 0)with
   |none=>
    refine bT ?_;have hno:¬Mk.obj S _:=fun ho=>by unfold Mk.obj at ho;rw[hh]at ho;cases ho
    have H2:=H.skip hi (fun ho=>(hno ho).elim);refine Tr.take (A:=aw s 1 _) tk (Tr.take (A:=aw t 1 _) tk ?_);refine hX (1025*m1.count _+(tl.length-(i+1).toNat)) _ _ ae ⟨m1,tl,rfl,bq,bq,rfl,?_⟩;rw[e1];exact H2
   |some hd=>
    have ho:Mk.obj S (tl.getD i.toNat 0):=by unfold Mk.obj;rw[hh];rfl
    obtain⟨g1,g2⟩:=Mk.ke hw ho;have hml:=H.len;refine bF<|jO tk g1 ae<|ag (fun h3=>?_) (fun h3=>?_);·have H2:=H.skip hi (fun _=>by unfold Sp.has;rw[decide_eq_true g1,h3];rfl);refine Tr.take (A:=aw s 1 _) tk (Tr.take (A:=aw t 1 _) tk ?_);refine hX (1025*m1.count _+(tl.length-(i+1).toNat)) _ _ ae ⟨m1,tl,rfl,bq,bq,rfl,?_⟩;rw[e1];exact H2
    ·apply qB tk g1 ae;have hrs:=Bg hw hcl (tl.getD i.toNat 0);obtain⟨H2,hc2⟩:=H.mark hw hm0 hi rfl ho h3 hrs;generalize tl.getD i.toNat 0=x at*;refine ai (CD p S _ hw hk hln x) ar ?_;rintro r11 M ⟨A,rfl,hA⟩;generalize Ob.refs S (dK lc) x=xs at*;have hrn:r11.n=xs.length:=by have:=(hA ρ S).1;simpa using this.symm
     refine Tr.take (.skip (D6 A (.skip .here))) ?_;let vs:Nat→List Int:=fun c=>tl++(xs.take c).map fun f=>(Ob.get S x f).1;have hvs:∀c:Nat,c<xs.length→vs (c+1)=vs c++[(Ob.get S x (xs.getD c 0)).1]:=fun c hc=>by show tl++_=(tl++_)++_;rw[aE 0 hc,List.map_append,List.append_assoc];rfl
     have hvl:∀c:Nat,c≤xs.length→(vs c).length=tl.length+c:=fun c hc=>by rw[List.length_append,List.length_map,List.length_take];omega
     have hv0:vs 0=tl:=by show tl++_=tl;simp
     refine aM (fun n u M=>(fun td (c:Int)=>M=aw td 1 ((vs c.toNat).map i64)::ct p S lc::(A++aw s 1 ((m1.set x.toNat true).map bv)::R)∧0≤c∧c≤xs.length∧n=xs.length-c.toNat) u.1 u.2.1) xs.length ?_ ?_;·refine⟨?_,bu,bq,bu⟩;show _=aw _ 1 ((vs 0).map i64)::_;rw[hv0]
     ·rintro n ⟨(td:av),(c:Int),⟨⟩⟩ M ⟨rfl,c0,c1,rfl⟩ Y hY;dsimp only at c0 c1 hY⊢;refine ag (fun h4=>?_) (fun h4=>?_)
      ·replace h4:c<(r11.n:Int):=oT h4;have hc:c.toNat<xs.length:=by omega
       have hstep:=hvs c.toNat hc;have hvl1:=hvl c.toNat ae;apply jg (hA ρ S) (aI.ly (.cons .here (aI.app A _))) c0 ae;generalize xs.getD c.toNat 0=f at*;apply cE (kG p S _ hw x f);refine dm bJ tk ae fun r hr=>?_;rw[bG (n:=c+1)];refine hY (xs.length-(c+1).toNat) _ _ ae ⟨?_,bq,bq,rfl⟩;rw[show(c+1).toNat=c.toNat+1 by omega,hstep]
      ·replace h4:¬c<(r11.n:Int):=oF h4;have hfull:vs c.toNat=tl++xs.map fun f=>(Ob.get S x f).1:=by show tl++(xs.take c.toNat).map _=_;rw[List.take_of_length_le ae]
       rw[hfull];rw[←List.length_map (f:=fun f=>(Ob.get S x f).1)]at hrs;generalize(xs.map fun f=>(Ob.get S x f).1)=ws at*;refine Tr.JP (aI.ly (aI.ly (aI.app A _)))<|Tr.take (A:=aw s 1 _) tk (Tr.take (A:=aw td 1 _) tk ?_);refine hX (1025*(m1.set _ _).count _+((tl++ws).length-(i+1).toNat)) _ _ (by rw[List.length_append];omega) ⟨m1.set _ true,tl++ws,rfl,bq,by dsimp only;rw[List.length_append];omega,rfl,?_⟩;rw[e1];exact H2
  ·replace h:¬i<(t.n:Int):=oF h;have hnil:tl.drop i.toNat=[]:=List.drop_eq_nil_of_le ae;have hC:Mk.ju S (dK lc) m1:=⟨H.len,H.obj,fun a ha b hb ho=>by
    rcases H.sO a ha b hb ho with h'|h';·exact h'
    ·rw[hnil]at h';cases h'⟩;refine ax (x:=()) rfl ⟨m1,rfl,hC,fun a=>⟨H.new a,?_⟩⟩ ar bE;rintro(h'|h');·exact H.rj a h'
   ·refine hC.LQ (fun b hb ho=>?_) h';rcases H.root b hb ho with h''|h'';·exact h''
    ·rw[hnil]at h'';cases h''
theorem yP{ρ':FR}(h0:Le ρ0 ρ)(hle:Le ρ ρ')(h:Tr ρ0 ρ L T Post):Tr ρ0 ρ' L T Post:=fun _ w hw=>h h0 w (hw.HC hle)
theorem fp{S:aJ}{cs:List aX}(hw:aY S cs){a:Int}:a∈Sp.each S↔∃h,Ob.head S a=some h:=by
 constructor;·intro h;obtain⟨n,w,rfl,hf⟩:=(fP hw.wf).mp h;exact⟨_,by unfold Ob.head;rw[hf];dsimp only;rw[if_pos rfl]⟩
 ·rintro⟨h,hh⟩;obtain⟨n,w,rfl,hf,_⟩:=Ob.bU hw hh;exact(fP hw.wf).mpr ⟨n,w,rfl,hf⟩
theorem Kn.make{S:aJ}{cs:List aX}(hw:aY S cs)(hk:Kn S cs)(h:Hd):Kn (Ob.make S cs h).2.2 cs:=by
 by_cases h0:(Ob.make S cs h).2.1=0
 ·intro a h' hh hk1;have hin:=(wD hw h0).mem_iff.mp ((fp (hw.make h)).mpr ⟨h',hh⟩);rcases List.mem_cons.mp hin with rfl|hin;·rw[Ob.jE hw h0]at hh;obtain⟨_,_,_,hm,_⟩:=Ob.l6 hw h0;unfold Ob.may at hm;grind
  ·obtain⟨h1,hh1⟩:=(fp hw).mp hin;rw[(Ob.eU hw h0 hh1).1]at hh;injection hh with hh;subst hh;exact hk a _ hh1 hk1
 ·have:(Ob.make S cs h).2.2=S:=by unfold Ob.make at h0⊢;grind
  rw[this];exact hk
theorem Kn.put{S:aJ}{cs:List aX}(hw:aY S cs)(hk:Kn S cs)(a i x:Int):Kn (Ob.put S a i x).2 cs:=by
 by_cases h0:(Ob.fieldAt S a i).2=0;·obtain⟨hd,e,i0,i1,_⟩:=Ob.gv hw h0;obtain⟨_,hkeep⟩:=Ob.qO (x:=x) hw e i0 i1;intro b h' hh hk1;have hin:=(fp (hw.put a i x)).mpr ⟨h',hh⟩;rw[tN hw]at hin;obtain⟨h1,hh1⟩:=(fp hw).mp hin;rw[(hkeep b h1 hh1).1]at hh;injection hh with hh;subst hh;exact hk b _ hh1 hk1
 ·have:(Ob.put S a i x).2=S:=by unfold Ob.put;rw[if_pos h0]
  rw[this];exact hk
theorem Kn.final{S:aJ}{cs:List aX}(hw:aY S cs)(hk:Kn S cs)(a:Int):Kn (Ob.final S a).2 cs:=by
 cases hh:Ob.head S a with
 |none=>
  have:(Ob.final S a).2=S:=by unfold Ob.final;rw[hh]
  rw[this];exact hk
 |some h=>
  by_cases h4:h.k=4
  ·have:(Ob.final S a).2=S:=by unfold Ob.final;grind
   rw[this];exact hk
  ·cases hf:h.f with
   |true=>
    have:(Ob.final S a).2=S:=by unfold Ob.final;grind
    rw[this];exact hk
   |false=>
    obtain⟨_,g2,g3,_⟩:=Ob.lJ hw hh h4 hf;have he:Sp.each (Ob.final S a).2=Sp.each S:=by unfold Ob.final;rw[hh];dsimp only;rw[if_neg h4,if_neg (by rw[hf];simp)];rfl
    intro b h' hb hk1;have hin:=(fp (hw.final a)).mpr ⟨h',hb⟩;rw[he]at hin;obtain⟨h1,hh1⟩:=(fp hw).mp hin;by_cases hba:b=a;·subst hba;rw[g2]at hb;injection hb with hb;subst hb;exact hk b h hh hk1
    ·rw[g3 b h1 hba hh1]at hb;injection hb with hb;subst hb;exact hk b _ hh1 hk1
theorem aY.eE{S:aJ}{cs:List aX}(hw:aY S cs){n:Int}{xs:List Int}(hl:xs.length≤2^20):aY S (Sp.eE cs (n,xs)).2.2:=by
 unfold Sp.eE;split;·exact hw
 ·split;·exact hw
  ·exact Jq hw ae hl
theorem Kn.eE{S:aJ}{cs:List aX}(hk:Kn S cs){c:aX}:Kn S (Sp.eE cs c).2.2:=by
 unfold Sp.eE;split;·exact hk
 ·split;·exact hk
  ·intro a h hh hk1;obtain⟨x,hx⟩:=hk a h hh hk1;obtain⟨i,hi,hx⟩:=Sp.nv hx;refine⟨x,?_⟩;have hlt:=cf hx;unfold Sp.iI;rw[if_pos ⟨ae,by simp;omega⟩,List.getElem?_append_left ae,show(h.c-1).toNat=i by omega];exact hx
end
section
open Go Go.Gl
set_option maxRecDepth 100000
def F.aL.Index.T:az:=⟨(fun|2=>[(8,kI)]|_=>[]),fun _=>none,fun _=> .quiet⟩
def F.aL.Index(p0:av)(p1:Int):Tree:=lp [kI] (fun X1 u2=>br (decide ((u2.1:Int)<(p0.n:Nat))) (ix p0.a p0.n u2.1 1 fun a3=>dI a3 fun x4=>br ((p1:Int)==x4) (ret (i64 u2.1)) (X1 (IntKind.wrap .i64 (u2.1+1),()))) (ret (i64 (-1)))) (0,())
theorem F.aL.Index.calls(p0:av)(p1:Int):Cf 215 [sV p0,i64 p1] (F.aL.Index p0 p1):=Tryz.cd F.aL.Index.T Tryz.func215
def F.aL.Delete.T:az:=⟨fun _=>[],fun _=>none,(fun|5=> .tail 6 |_=> .quiet)⟩
def F.aL.Delete(p0:av)(p1 p2:Int):Tree:=dE ((0:Int)≤(p0.n:Nat)∧((p0.n:Nat):Int)≤(p0.c:Nat))<|sG p0.a ((p0.n:Nat):Int).toNat p1 p2 1 fun s1=>br ((p1:Int)==p2) (ret (sV p0)) (cD<|sG p0.a p0.c 0 p1 1 fun s2=>sG p0.a p0.c p2 (p0.n:Nat) 1 fun s3=>ap 43 (sV s2) (sV s3) fun r4=>sG r4.a r4.c (r4.n:Nat) (p0.n:Nat) 1 fun s5=>cM Zp (Builtin.clear_ #[43] 0 #[sV s5]) (.many []) fun(r6:KTs _)=>ret (sV r4))
theorem F.aL.Delete.calls(p0:av)(p1 p2:Int):Cf 216 [sV p0,i64 p1,i64 p2] (F.aL.Delete p0 p1 p2):=Tryz.cd F.aL.Delete.T Tryz.func216
def F.aL.uC(p0:av)(p1:Int):Tree:=cI 215 [sV p0,i64 p1] fun r1=>ret (.bool (decide ((r1:Int)≥0)))
theorem F.aL.uC.calls(p0:av)(p1:Int):Cf 227 [sV p0,i64 p1] (F.aL.uC p0 p1):=Tryz.cd az.z Tryz.func227
def F.aL.kN(p0:av)(p1:Value):Tree:=cN 293 [sV p0,i64 (p0.n:Nat),p1] [] fun r1=>ret (.tuple #[])
theorem F.aL.kN.calls(p0:av)(p1:Value):Cf 249 [sV p0,p1] (F.aL.kN p0 p1):=Tryz.ce az.z Tryz.func249 [.va (sV p0),.op p1]
def F.cmp.Compare(p0 p1:Int):Tree:=cB 294 [i64 p0] fun r1=>cB 294 [i64 p1] fun r2=>br r1 (br r2 (ret (i64 0)) (ret (i64 (-1)))) (br r2 (ret (i64 1)) (br (decide ((p0:Int)<p1)) (ret (i64 (-1))) (br (decide ((p0:Int)>p1)) (ret (i64 1)) (ret (i64 0)))))
theorem F.cmp.Compare.calls(p0 p1:Int):Cf 251 [i64 p0,i64 p1] (F.cmp.Compare p0 p1):=Tryz.cd az.z Tryz.func251
def F.aL.lA.T:az:=⟨(fun|2=>[(8,kI)]|_=>[]),fun _=>none,fun _=> .quiet⟩
def F.aL.lA(p0:av)(p1:Value):Tree:=lp [kI] (fun X1 u2=>br (decide ((u2.1:Int)<(p0.n:Nat))) (ix p0.a p0.n u2.1 6 fun a3=>dG [kI,kI,kI,kI,kI,kI] a3 fun x4=>lu Zp p1 [.agg #[i64 x4.1,i64 x4.2.1,i64 x4.2.2.1,i64 x4.2.2.2.1,i64 x4.2.2.2.2.1,i64 x4.2.2.2.2.2.1]] (.one (.l .bool)) fun(r5:Bool)=>br r5 (ret (i64 u2.1)) (X1 (IntKind.wrap .i64 (u2.1+1),()))) (ret (i64 (-1)))) (0,())
theorem F.aL.lA.calls(p0:av)(p1:Value):Cf 257 [sV p0,p1] (F.aL.lA p0 p1):=Tryz.ce F.aL.lA.T Tryz.func257 [.va (sV p0),.op p1]
def F.aL.Concat.T:az:=⟨(fun|3=>[(3,kI),(11,kI)]|11=>[(6,.slice),(27,kI)]|_=>[]),fun _=>none,fun _=> .quiet⟩
def F.aL.Concat(p0:av):Tree:=lp [kI,kI] (fun X1 u2=>br (decide ((u2.2.1:Int)<(p0.n:Nat))) (ix p0.a p0.n u2.2.1 1 fun a3=>dS a3 fun x4=>br (decide ((IntKind.wrap .i64 (u2.1+(x4.n:Nat)):Int)<0)) (bad) (X1 (IntKind.wrap .i64 (u2.1+(x4.n:Nat)),IntKind.wrap .i64 (u2.2.1+1),()))) (cS 299 [.slice none 0 0,i64 u2.1] fun r3=>lp [.slice,kI] (fun X4 u5=>br (decide ((u5.2.1:Int)<(p0.n:Nat))) (ix p0.a p0.n u5.2.1 1 fun a6=>dS a6 fun x7=>ap 43 (sV u5.1) (sV x7) fun r8=>X4 (r8,IntKind.wrap .i64 (u5.2.1+1),())) (ret (sV u5.1))) (r3,0,()))) (0,0,())
theorem F.aL.Concat.calls(p0:av):Cf 262 [sV p0] (F.aL.Concat p0):=Tryz.cd F.aL.Concat.T Tryz.func262
def F.aL.lE.T:az:=⟨(fun|5=>[(5,kI),(6,kI)]|_=>[]),fun _=>none,fun _=> .quiet⟩
def F.aL.lE(p0:av)(p1:Value):Tree:=cI 300 [sV p0,p1] fun r1=>br ((r1:Int)==(-1)) (ret (sV p0)) (lp [kI,kI] (fun X2 u3=>br (decide ((u3.2.1:Int)<(p0.n:Nat))) (ix p0.a p0.n u3.2.1 1 fun a4=>dI a4 fun x5=>lu Zp p1 [i64 x5] (.one (.l .bool)) fun(r6:Bool)=>br (!r6) (ix p0.a p0.n u3.1 1 fun a7=>st a7 [i64 x5]<|X2 (IntKind.wrap .i64 (u3.1+1),IntKind.wrap .i64 (u3.2.1+1),())) (X2 (u3.1,IntKind.wrap .i64 (u3.2.1+1),()))) (sG p0.a p0.c u3.1 (p0.n:Nat) 1 fun s4=>cM Zp (Builtin.clear_ #[43] 0 #[sV s4]) (.many []) fun(r5:KTs _)=>sG p0.a p0.c 0 u3.1 1 fun s6=>ret (sV s6))) (r1,IntKind.wrap .i64 (r1+1),()))
theorem F.aL.lE.calls(p0:av)(p1:Value):Cf 263 [sV p0,p1] (F.aL.lE p0 p1):=Tryz.ce F.aL.lE.T Tryz.func263 [.va (sV p0),.op p1]
def F.aL.qw.T:az:=⟨(fun|4=>[(3,kI)]|9=>[(3,kI),(5,kI)]|_=>[]),fun _=>none,(fun|6=> .quiet|11=> .quiet|_=> .quiet)⟩
def F.aL.qw(p0:av):Tree:=br (decide (((p0.n:Nat):Int)<2)) (ret (sV p0)) (lp [kI] (fun X1 u2=>br (decide ((u2.1:Int)<(p0.n:Nat))) (cD<|ix p0.a p0.n u2.1 1 fun a3=>dI a3 fun x4=>ix p0.a p0.n (IntKind.wrap .i64 (u2.1-1)) 1 fun a5=>dI a5 fun x6=>br ((x4:Int)==x6) (sG p0.a p0.c u2.1 (p0.n:Nat) 1 fun s7=>lp [kI,kI] (fun X8 u9=>br (decide ((u9.2.1:Int)<(s7.n:Nat))) (cD<|ix s7.a s7.n u9.2.1 1 fun a10=>dI a10 fun x11=>ix s7.a s7.n (IntKind.wrap .i64 (u9.2.1-1)) 1 fun a12=>dI a12 fun x13=>br ((x11:Int) != x13) (ix s7.a s7.n u9.2.1 1 fun a14=>dI a14 fun x15=>ix p0.a p0.n u9.1 1 fun a16=>st a16 [i64 x15]<|X8 (IntKind.wrap .i64 (u9.1+1),IntKind.wrap .i64 (u9.2.1+1),())) (X8 (u9.1,IntKind.wrap .i64 (u9.2.1+1),()))) (sG p0.a p0.c u9.1 (p0.n:Nat) 1 fun s10=>cM Zp (Builtin.clear_ #[43] 0 #[sV s10]) (.many []) fun(r11:KTs _)=>sG p0.a p0.c 0 u9.1 1 fun s12=>ret (sV s12))) (u2.1,1,())) (X1 (IntKind.wrap .i64 (u2.1+1),()))) (ret (sV p0))) (1,()))
theorem F.aL.qw.calls(p0:av):Cf 264 [sV p0] (F.aL.qw p0):=Tryz.cd F.aL.qw.T Tryz.func264
def F.aL.iz.T:az:=⟨(fun|2=>[(7,kI),(8,kI)]|7=>[(6,kI)]|9=>[(7,kI),(8,kI)]|_=>[]),fun _=>none,fun _=> .quiet⟩
def F.aL.iz(p0:av)(p1:Int)(p2:Value):Tree:=lp [kI,kI] (fun X1 u2=>br (decide ((u2.2.1:Int)≤p1)) (cN 315 [sV p0,i64 u2.1,i64 u2.2.1,p2] [] fun r3=>X1 (u2.2.1,IntKind.wrap .i64 (u2.2.1+20),())) (cN 315 [sV p0,i64 u2.1,i64 p1,p2] [] fun r3=>lp [kI] (fun X4 u5=>br (decide ((u5.1:Int)<p1)) (lp [kI,kI] (fun X6 u7=>br (decide ((u7.2.1:Int)≤p1)) (cN 316 [sV p0,i64 u7.1,i64 (IntKind.wrap .i64 (u7.1+u5.1)),i64 u7.2.1,p2] [] fun r8=>X6 (u7.2.1,IntKind.wrap .i64 (u7.2.1+(IntKind.wrap .i64 (2*u5.1))),())) (br (decide ((IntKind.wrap .i64 (u7.1+u5.1):Int)<p1)) (cN 316 [sV p0,i64 u7.1,i64 (IntKind.wrap .i64 (u7.1+u5.1)),i64 p1,p2] [] fun r8=>X4 (IntKind.wrap .i64 (u5.1*2),())) (X4 (IntKind.wrap .i64 (u5.1*2),())))) (0,IntKind.wrap .i64 (2*u5.1),())) (ret (.tuple #[]))) (20,()))) (0,20,())
theorem F.aL.iz.calls(p0:av)(p1:Int)(p2:Value):Cf 293 [sV p0,i64 p1,p2] (F.aL.iz p0 p1 p2):=Tryz.ce F.aL.iz.T Tryz.func293 [.va (sV p0),.va (i64 p1),.op p2]
def F.cmp.isNaN(p0:Int):Tree:=ret (.bool ((p0:Int) != p0))
theorem F.cmp.isNaN.calls(p0:Int):Cf 294 [i64 p0] (F.cmp.isNaN p0):=Tryz.cd az.z Tryz.func294
def F.aL.Grow(p0:av)(p1:Int):Tree:=br (decide ((p1:Int)<0)) (bad) (br (decide ((IntKind.wrap .i64 (p1-(IntKind.wrap .i64 ((p0.c:Nat)-(p0.n:Nat)))):Int)>0)) (sG p0.a p0.c 0 (p0.c:Nat) 1 fun s1=>cM Zp (Builtin.append_ #[43,3] 43 #[sV s1,i64 (IntKind.wrap .i64 (p1-(IntKind.wrap .i64 ((p0.c:Nat)-(p0.n:Nat)))))]) (.one (.l .slice)) fun(r2:av)=>sG r2.a r2.c 0 (p0.n:Nat) 1 fun s3=>ret (sV s3)) (ret (sV p0)))
theorem F.aL.Grow.calls(p0:av)(p1:Int):Cf 299 [sV p0,i64 p1] (F.aL.Grow p0 p1):=Tryz.cd az.z Tryz.func299
def F.aL.dc.T:az:=⟨(fun|1=>[(8,kI)]|4=>[(9,kI)]|_=>[]),fun _=>none,(fun|4=> .tail 14 |6=> .held (some 15) (gF [0,1,2,3,4,5,6,7,8,9,10,11,12,13,14] (.go 15 true (gF [16,17] .nil)))|_=> .quiet)⟩
def F.aL.dc(p0:av)(p1 p2:Int)(p3:Value):Tree:=lp [kI] (fun X1 u2=>br (decide ((u2.1:Int)<p2)) (lp [kI] (fun X3 u4=>cD<|br (decide ((u4.1:Int)>p1)) (ix p0.a p0.n u4.1 6 fun a5=>dG [kI,kI,kI,kI,kI,kI] a5 fun x6=>ix p0.a p0.n (IntKind.wrap .i64 (u4.1-1)) 6 fun a7=>dG [kI,kI,kI,kI,kI,kI] a7 fun x8=>lu Zp p3 [.agg #[i64 x6.1,i64 x6.2.1,i64 x6.2.2.1,i64 x6.2.2.2.1,i64 x6.2.2.2.2.1,i64 x6.2.2.2.2.2.1],.agg #[i64 x8.1,i64 x8.2.1,i64 x8.2.2.1,i64 x8.2.2.2.1,i64 x8.2.2.2.2.1,i64 x8.2.2.2.2.2.1]] (.one (.l kI)) fun(r9:Int)=>br (decide ((r9:Int)<0)) (cD<|Gl.held fun S10=>ix p0.a p0.n (IntKind.wrap .i64 (u4.1-1)) 6 fun a11=>eG S10 [kI,kI,kI,kI,kI,kI] a11 fun x12=>ix p0.a p0.n u4.1 6 fun a13=>eG S10 [kI,kI,kI,kI,kI,kI] a13 fun x14=>ix p0.a p0.n u4.1 6 fun a15=>st a15 [i64 x12.1,i64 x12.2.1,i64 x12.2.2.1,i64 x12.2.2.2.1,i64 x12.2.2.2.2.1,i64 x12.2.2.2.2.2.1]<|ix p0.a p0.n (IntKind.wrap .i64 (u4.1-1)) 6 fun a16=>st a16 [i64 x14.1,i64 x14.2.1,i64 x14.2.2.1,i64 x14.2.2.2.1,i64 x14.2.2.2.2.1,i64 x14.2.2.2.2.2.1]<|X3 (IntKind.wrap .i64 (u4.1-1),())) (X1 (IntKind.wrap .i64 (u2.1+1),()))) (X1 (IntKind.wrap .i64 (u2.1+1),()))) (u2.1,())) (ret (.tuple #[]))) (IntKind.wrap .i64 (p1+1),())
theorem F.aL.dc.calls(p0:av)(p1 p2:Int)(p3:Value):Cf 315 [sV p0,i64 p1,i64 p2,p3] (F.aL.dc p0 p1 p2 p3):=Tryz.ce F.aL.dc.T Tryz.func315 [.va (sV p0),.va (i64 p1),.va (i64 p2),.op p3]
def F.aL.dC.T:az:=⟨(fun|3=>[(10,kI),(11,kI)]|9=>[(13,kI)]|15=>[(14,kI),(15,kI)]|21=>[(17,kI)]|33=>[(20,kI),(21,kI)]|_=>[]),(fun|32=>some [(20,kI),(21,kI)]|41=>some []|43=>some []|_=>none),(fun|5=> .tail 9 |11=> .held (some 15) (gF [0,1,2,3,4,5,6,7,8,9,10,11,12,13,14] (.go 15 true (gF [16,17] .nil)))|17=> .tail 9 |23=> .held (some 15) (gF [0,1,2,3,4,5,6,7,8,9,10,11,12,13,14] (.go 15 true (gF [16,17] .nil)))|35=> .tail 11 |_=> .quiet)⟩
def F.aL.dC(p0:av)(p1 p2 p3:Int)(p4:Value):Tree:=br ((IntKind.wrap .i64 (p2-p1):Int)==1) (lp [kI,kI] (fun X1 u2=>br (decide ((u2.1:Int)<u2.2.1)) (dE ((0:Int)≤1)<|cD<|ix p0.a p0.n (IntKind.wrap .i64 (Int.fdiv (IntKind.wrap .u64 (IntKind.wrap .i64 (u2.1+u2.2.1))) (2^(min (1:Int).toNat (IntKind.bits .u64))))) 6 fun a3=>dG [kI,kI,kI,kI,kI,kI] a3 fun x4=>ix p0.a p0.n p1 6 fun a5=>dG [kI,kI,kI,kI,kI,kI] a5 fun x6=>lu Zp p4 [.agg #[i64 x4.1,i64 x4.2.1,i64 x4.2.2.1,i64 x4.2.2.2.1,i64 x4.2.2.2.2.1,i64 x4.2.2.2.2.2.1],.agg #[i64 x6.1,i64 x6.2.1,i64 x6.2.2.1,i64 x6.2.2.2.1,i64 x6.2.2.2.2.1,i64 x6.2.2.2.2.2.1]] (.one (.l kI)) fun(r7:Int)=>br (decide ((r7:Int)<0)) (X1 (IntKind.wrap .i64 ((IntKind.wrap .i64 (Int.fdiv (IntKind.wrap .u64 (IntKind.wrap .i64 (u2.1+u2.2.1))) (2^(min (1:Int).toNat (IntKind.bits .u64)))))+1),u2.2.1,())) (X1 (u2.1,IntKind.wrap .i64 (Int.fdiv (IntKind.wrap .u64 (IntKind.wrap .i64 (u2.1+u2.2.1))) (2^(min (1:Int).toNat (IntKind.bits .u64)))),()))) (lp [kI] (fun X3 u4=>br (decide ((u4.1:Int)<(IntKind.wrap .i64 (u2.1-1)))) (cD<|Gl.held fun S5=>ix p0.a p0.n (IntKind.wrap .i64 (u4.1+1)) 6 fun a6=>eG S5 [kI,kI,kI,kI,kI,kI] a6 fun x7=>ix p0.a p0.n u4.1 6 fun a8=>eG S5 [kI,kI,kI,kI,kI,kI] a8 fun x9=>ix p0.a p0.n u4.1 6 fun a10=>st a10 [i64 x7.1,i64 x7.2.1,i64 x7.2.2.1,i64 x7.2.2.2.1,i64 x7.2.2.2.2.1,i64 x7.2.2.2.2.2.1]<|ix p0.a p0.n (IntKind.wrap .i64 (u4.1+1)) 6 fun a11=>st a11 [i64 x9.1,i64 x9.2.1,i64 x9.2.2.1,i64 x9.2.2.2.1,i64 x9.2.2.2.2.1,i64 x9.2.2.2.2.2.1]<|X3 (IntKind.wrap .i64 (u4.1+1),())) (ret (.tuple #[]))) (p1,()))) (p2,p3,())) (br ((IntKind.wrap .i64 (p3-p2):Int)==1) (lp [kI,kI] (fun X1 u2=>br (decide ((u2.1:Int)<u2.2.1)) (dE ((0:Int)≤1)<|cD<|ix p0.a p0.n p2 6 fun a3=>dG [kI,kI,kI,kI,kI,kI] a3 fun x4=>ix p0.a p0.n (IntKind.wrap .i64 (Int.fdiv (IntKind.wrap .u64 (IntKind.wrap .i64 (u2.1+u2.2.1))) (2^(min (1:Int).toNat (IntKind.bits .u64))))) 6 fun a5=>dG [kI,kI,kI,kI,kI,kI] a5 fun x6=>lu Zp p4 [.agg #[i64 x4.1,i64 x4.2.1,i64 x4.2.2.1,i64 x4.2.2.2.1,i64 x4.2.2.2.2.1,i64 x4.2.2.2.2.2.1],.agg #[i64 x6.1,i64 x6.2.1,i64 x6.2.2.1,i64 x6.2.2.2.1,i64 x6.2.2.2.2.1,i64 x6.2.2.2.2.2.1]] (.one (.l kI)) fun(r7:Int)=>br (!(decide ((r7:Int)<0))) (X1 (IntKind.wrap .i64 ((IntKind.wrap .i64 (Int.fdiv (IntKind.wrap .u64 (IntKind.wrap .i64 (u2.1+u2.2.1))) (2^(min (1:Int).toNat (IntKind.bits .u64)))))+1),u2.2.1,())) (X1 (u2.1,IntKind.wrap .i64 (Int.fdiv (IntKind.wrap .u64 (IntKind.wrap .i64 (u2.1+u2.2.1))) (2^(min (1:Int).toNat (IntKind.bits .u64)))),()))) (lp [kI] (fun X3 u4=>br (decide ((u4.1:Int)>u2.1)) (cD<|Gl.held fun S5=>ix p0.a p0.n (IntKind.wrap .i64 (u4.1-1)) 6 fun a6=>eG S5 [kI,kI,kI,kI,kI,kI] a6 fun x7=>ix p0.a p0.n u4.1 6 fun a8=>eG S5 [kI,kI,kI,kI,kI,kI] a8 fun x9=>ix p0.a p0.n u4.1 6 fun a10=>st a10 [i64 x7.1,i64 x7.2.1,i64 x7.2.2.1,i64 x7.2.2.2.1,i64 x7.2.2.2.2.1,i64 x7.2.2.2.2.2.1]<|ix p0.a p0.n (IntKind.wrap .i64 (u4.1-1)) 6 fun a11=>st a11 [i64 x9.1,i64 x9.2.1,i64 x9.2.2.1,i64 x9.2.2.2.1,i64 x9.2.2.2.2.1,i64 x9.2.2.2.2.2.1]<|X3 (IntKind.wrap .i64 (u4.1-1),())) (ret (.tuple #[]))) (p2,()))) (p1,p2,())) (dE ((0:Int)≤1)<|jn (fun(j2:LTs [kI,kI])=>lp [kI,kI] (fun X3 u4=>br (decide ((u4.1:Int)<u4.2.1)) (dE ((0:Int)≤1)<|cD<|ix p0.a p0.n (IntKind.wrap .i64 ((IntKind.wrap .i64 ((IntKind.wrap .i64 ((IntKind.wrap .i64 (Int.fdiv (IntKind.wrap .u64 (IntKind.wrap .i64 (p1+p3))) (2^(min (1:Int).toNat (IntKind.bits .u64)))))+p2))-1))-(IntKind.wrap .i64 (Int.fdiv (IntKind.wrap .u64 (IntKind.wrap .i64 (u4.1+u4.2.1))) (2^(min (1:Int).toNat (IntKind.bits .u64))))))) 6 fun a5=>dG [kI,kI,kI,kI,kI,kI] a5 fun x6=>ix p0.a p0.n (IntKind.wrap .i64 (Int.fdiv (IntKind.wrap .u64 (IntKind.wrap .i64 (u4.1+u4.2.1))) (2^(min (1:Int).toNat (IntKind.bits .u64))))) 6 fun a7=>dG [kI,kI,kI,kI,kI,kI] a7 fun x8=>lu Zp p4 [.agg #[i64 x6.1,i64 x6.2.1,i64 x6.2.2.1,i64 x6.2.2.2.1,i64 x6.2.2.2.2.1,i64 x6.2.2.2.2.2.1],.agg #[i64 x8.1,i64 x8.2.1,i64 x8.2.2.1,i64 x8.2.2.2.1,i64 x8.2.2.2.2.1,i64 x8.2.2.2.2.2.1]] (.one (.l kI)) fun(r9:Int)=>br (!(decide ((r9:Int)<0))) (X3 (IntKind.wrap .i64 ((IntKind.wrap .i64 (Int.fdiv (IntKind.wrap .u64 (IntKind.wrap .i64 (u4.1+u4.2.1))) (2^(min (1:Int).toNat (IntKind.bits .u64)))))+1),u4.2.1,())) (X3 (u4.1,IntKind.wrap .i64 (Int.fdiv (IntKind.wrap .u64 (IntKind.wrap .i64 (u4.1+u4.2.1))) (2^(min (1:Int).toNat (IntKind.bits .u64)))),()))) (jn (fun(j6:LTs [])=>jn (fun(j8:LTs [])=>br (decide ((IntKind.wrap .i64 (Int.fdiv (IntKind.wrap .u64 (IntKind.wrap .i64 (p1+p3))) (2^(min (1:Int).toNat (IntKind.bits .u64)))):Int)<(IntKind.wrap .i64 ((IntKind.wrap .i64 ((IntKind.wrap .i64 (Int.fdiv (IntKind.wrap .u64 (IntKind.wrap .i64 (p1+p3))) (2^(min (1:Int).toNat (IntKind.bits .u64)))))+p2))-u4.1)))) (br (decide ((IntKind.wrap .i64 ((IntKind.wrap .i64 ((IntKind.wrap .i64 (Int.fdiv (IntKind.wrap .u64 (IntKind.wrap .i64 (p1+p3))) (2^(min (1:Int).toNat (IntKind.bits .u64)))))+p2))-u4.1):Int)<p3)) (cN 316 [sV p0,i64 (IntKind.wrap .i64 (Int.fdiv (IntKind.wrap .u64 (IntKind.wrap .i64 (p1+p3))) (2^(min (1:Int).toNat (IntKind.bits .u64))))),i64 (IntKind.wrap .i64 ((IntKind.wrap .i64 ((IntKind.wrap .i64 (Int.fdiv (IntKind.wrap .u64 (IntKind.wrap .i64 (p1+p3))) (2^(min (1:Int).toNat (IntKind.bits .u64)))))+p2))-u4.1)),i64 p3,p4] [] fun r9=>ret (.tuple #[])) (ret (.tuple #[]))) (ret (.tuple #[]))) fun J7=>br (decide ((p1:Int)<u4.1)) (br (decide ((u4.1:Int)<(IntKind.wrap .i64 (Int.fdiv (IntKind.wrap .u64 (IntKind.wrap .i64 (p1+p3))) (2^(min (1:Int).toNat (IntKind.bits .u64))))))) (cN 316 [sV p0,i64 p1,i64 u4.1,i64 (IntKind.wrap .i64 (Int.fdiv (IntKind.wrap .u64 (IntKind.wrap .i64 (p1+p3))) (2^(min (1:Int).toNat (IntKind.bits .u64))))),p4] [] fun r9=>J7 (())) (J7 (()))) (J7 (()))) fun J5=>br (decide ((u4.1:Int)<p2)) (br (decide ((p2:Int)<(IntKind.wrap .i64 ((IntKind.wrap .i64 ((IntKind.wrap .i64 (Int.fdiv (IntKind.wrap .u64 (IntKind.wrap .i64 (p1+p3))) (2^(min (1:Int).toNat (IntKind.bits .u64)))))+p2))-u4.1)))) (cN 326 [sV p0,i64 u4.1,i64 p2,i64 (IntKind.wrap .i64 ((IntKind.wrap .i64 ((IntKind.wrap .i64 (Int.fdiv (IntKind.wrap .u64 (IntKind.wrap .i64 (p1+p3))) (2^(min (1:Int).toNat (IntKind.bits .u64)))))+p2))-u4.1)),p4] [] fun r9=>J5 (())) (J5 (()))) (J5 (())))) (j2.1,j2.2.1,())) fun J1=>br (decide ((p2:Int)>(IntKind.wrap .i64 (Int.fdiv (IntKind.wrap .u64 (IntKind.wrap .i64 (p1+p3))) (2^(min (1:Int).toNat (IntKind.bits .u64))))))) (J1 (IntKind.wrap .i64 ((IntKind.wrap .i64 ((IntKind.wrap .i64 (Int.fdiv (IntKind.wrap .u64 (IntKind.wrap .i64 (p1+p3))) (2^(min (1:Int).toNat (IntKind.bits .u64)))))+p2))-p3),IntKind.wrap .i64 (Int.fdiv (IntKind.wrap .u64 (IntKind.wrap .i64 (p1+p3))) (2^(min (1:Int).toNat (IntKind.bits .u64)))),())) (J1 (p1,p2,()))))
theorem F.aL.dC.calls(p0:av)(p1 p2 p3:Int)(p4:Value):Cf 316 [sV p0,i64 p1,i64 p2,i64 p3,p4] (F.aL.dC p0 p1 p2 p3 p4):=Tryz.ce F.aL.dC.T Tryz.func316 [.va (sV p0),.va (i64 p1),.va (i64 p2),.va (i64 p3),.op p4]
def F.aL.fH.T:az:=⟨(fun|2=>[(10,kI),(11,kI)]|_=>[]),fun _=>none,fun _=> .quiet⟩
def F.aL.fH(p0:av)(p1 p2 p3:Int)(p4:Value):Tree:=lp [kI,kI] (fun X1 u2=>br ((u2.1:Int) != u2.2.1) (br (decide ((u2.1:Int)>u2.2.1)) (cN 331 [sV p0,i64 (IntKind.wrap .i64 (p2-u2.1)),i64 p2,i64 u2.2.1,p4] [] fun r3=>X1 (IntKind.wrap .i64 (u2.1-u2.2.1),u2.2.1,())) (cN 331 [sV p0,i64 (IntKind.wrap .i64 (p2-u2.1)),i64 (IntKind.wrap .i64 ((IntKind.wrap .i64 (p2+u2.2.1))-u2.1)),i64 u2.1,p4] [] fun r3=>X1 (u2.1,IntKind.wrap .i64 (u2.2.1-u2.1),()))) (cN 331 [sV p0,i64 (IntKind.wrap .i64 (p2-u2.1)),i64 p2,i64 u2.1,p4] [] fun r3=>ret (.tuple #[]))) (IntKind.wrap .i64 (p2-p1),IntKind.wrap .i64 (p3-p2),())
theorem F.aL.fH.calls(p0:av)(p1 p2 p3:Int)(p4:Value):Cf 326 [sV p0,i64 p1,i64 p2,i64 p3,p4] (F.aL.fH p0 p1 p2 p3 p4):=Tryz.ce F.aL.fH.T Tryz.func326 [.va (sV p0),.va (i64 p1),.va (i64 p2),.va (i64 p3),.op p4]
def F.bits.Gu(p0 p1:Int):Tree:=dE ((0:Int)≤32)<|dE ((0:Int)≤32)<|dE ((0:Int)≤32)<|dE ((0:Int)≤32)<|dE ((0:Int)≤32)<|ret (.tuple #[.int .u64 (IntKind.wrap .u64 ((IntKind.wrap .u64 ((IntKind.wrap .u64 ((Int.fdiv p0 (2^(min (32:Int).toNat (IntKind.bits .u64))))*(Int.fdiv p1 (2^(min (32:Int).toNat (IntKind.bits .u64))))))+(Int.fdiv (IntKind.wrap .u64 ((IntKind.wrap .u64 ((Int.fdiv p0 (2^(min (32:Int).toNat (IntKind.bits .u64))))*(jk .and .u64 p1 4294967295)))+(Int.fdiv (IntKind.wrap .u64 ((jk .and .u64 p0 4294967295)*(jk .and .u64 p1 4294967295))) (2^(min (32:Int).toNat (IntKind.bits .u64)))))) (2^(min (32:Int).toNat (IntKind.bits .u64))))))+(Int.fdiv (IntKind.wrap .u64 ((jk .and .u64 (IntKind.wrap .u64 ((IntKind.wrap .u64 ((Int.fdiv p0 (2^(min (32:Int).toNat (IntKind.bits .u64))))*(jk .and .u64 p1 4294967295)))+(Int.fdiv (IntKind.wrap .u64 ((jk .and .u64 p0 4294967295)*(jk .and .u64 p1 4294967295))) (2^(min (32:Int).toNat (IntKind.bits .u64)))))) 4294967295)+(IntKind.wrap .u64 ((jk .and .u64 p0 4294967295)*(Int.fdiv p1 (2^(min (32:Int).toNat (IntKind.bits .u64)))))))) (2^(min (32:Int).toNat (IntKind.bits .u64)))))),.int .u64 (IntKind.wrap .u64 (p0*p1))])
theorem F.bits.Gu.calls(p0 p1:Int):Cf 327 [.int .u64 p0,.int .u64 p1] (F.bits.Gu p0 p1):=Tryz.cd az.z Tryz.func327
def F.aL.fw.T:az:=⟨(fun|1=>[(10,kI)]|_=>[]),fun _=>none,(fun|3=> .held (some 21) (gF [0,1,2,3,4,5,6,7,8,9,10,11,12,13,14,15,16,17,18,19,20] (.go 21 true (gF [22,23] .nil)))|_=> .quiet)⟩
def F.aL.fw(p0:av)(p1 p2 p3:Int)(p4:Value):Tree:=lp [kI] (fun X1 u2=>br (decide ((u2.1:Int)<p3)) (cD<|Gl.held fun S3=>ix p0.a p0.n (IntKind.wrap .i64 (p2+u2.1)) 6 fun a4=>eG S3 [kI,kI,kI,kI,kI,kI] a4 fun x5=>ix p0.a p0.n (IntKind.wrap .i64 (p1+u2.1)) 6 fun a6=>eG S3 [kI,kI,kI,kI,kI,kI] a6 fun x7=>ix p0.a p0.n (IntKind.wrap .i64 (p1+u2.1)) 6 fun a8=>st a8 [i64 x5.1,i64 x5.2.1,i64 x5.2.2.1,i64 x5.2.2.2.1,i64 x5.2.2.2.2.1,i64 x5.2.2.2.2.2.1]<|ix p0.a p0.n (IntKind.wrap .i64 (p2+u2.1)) 6 fun a9=>st a9 [i64 x7.1,i64 x7.2.1,i64 x7.2.2.1,i64 x7.2.2.2.1,i64 x7.2.2.2.2.1,i64 x7.2.2.2.2.2.1]<|X1 (IntKind.wrap .i64 (u2.1+1),())) (ret (.tuple #[]))) (0,())
theorem F.aL.fw.calls(p0:av)(p1 p2 p3:Int)(p4:Value):Cf 331 [sV p0,i64 p1,i64 p2,i64 p3,p4] (F.aL.fw p0 p1 p2 p3 p4):=Tryz.ce F.aL.fw.T Tryz.func331 [.va (sV p0),.va (i64 p1),.va (i64 p2),.va (i64 p3),.op p4]
set_option maxRecDepth 100000
def F.proc.Process.T:az:=⟨fun _=>[],fun _=>none,(fun|4=> .held (some 6) (gF [0,1,2,3,4,5] (.go 6 true (gF [7] .nil)))|5=> .tail 6 |10=> .held (some 5) (gF [0,1,2,3,4] (.go 5 true (gF [6,7] .nil)))|_=> .quiet)⟩
def F.proc.Process(p0:OA)(p1:LTs [.slice,.slice,kI,kI,kI,.bool,kI]):Tree:=nw 181 [sV p1.1,sV p1.2.1,i64 p1.2.2.1,i64 p1.2.2.2.1,i64 p1.2.2.2.2.1,.bool p1.2.2.2.2.2.1,i64 p1.2.2.2.2.2.2.1] fun b1=>nw 120 (zc Zp 120) fun b2=>dI (fa (aB b1) 6) fun x3=>cN 204 [pV p0,i64 x3] [.l .ptr,.l kI] fun r4=>br ((r4.2.1:Int) != 0) (st (aB b2) [.slice none 0 0,.slice none 0 0,.slice none 0 0,.slice none 0 0]<|dG [.slice,.slice,.slice,.slice] (aB b2) fun x5=>ret (.tuple #[.agg #[sV x5.1,sV x5.2.1,sV x5.2.2.1,sV x5.2.2.2.1],i64 r4.2.1])) (cD<|Gl.held fun S5=>eG S5 [.slice,.slice,kI,kI,kI,.bool,kI] (aB b1) fun x6=>cS 205 [pV p0] fun r7=>aZ S5<|nw 277 [pV r4.1,pV p0,sV x6.1,sV x6.2.1,i64 x6.2.2.1,i64 x6.2.2.2.1,i64 x6.2.2.2.2.1,.bool x6.2.2.2.2.2.1,i64 x6.2.2.2.2.2.2.1,sV r7] fun b8=>cD<|dP (fa (aB b8) 0) fun x9=>dS (fa (aB b1) 0) fun x10=>cN 206 [pV x9,sV x10] [] fun r11=>cN 207 [.agg #[pV (some (aB b8))]] [] fun r12=>nw 120 (zc Zp 120) fun b13=>nw 3 [i64 1,i64 2] fun b14=>cS 208 [pV (some (aB b8)),.slice (some ⟨b14,0,none⟩) 2 2] fun r15=>st (fa (aB b13) 0) [sV r15]<|cS 209 [.agg #[pV (some (aB b8))]] fun r16=>st (fa (aB b13) 2) [sV r16]<|cD<|Gl.held fun S17=>eS S17 (fa (aB b13) 0) fun x18=>nw 3 [i64 3] fun b19=>aZ S17<|cS 208 [pV (some (aB b8)),.slice (some ⟨b19,0,none⟩) 1 1] fun r20=>aZ S17<|ap 43 (sV x18) (sV r20) fun r21=>st (fa (aB b13) 0) [sV r21]<|dS (fa (aB b13) 0) fun x22=>cS 210 [pV (some (aB b8)),sV x22] fun r23=>st (fa (aB b13) 1) [sV r23]<|dP (fa (aB b8) 0) fun x24=>cS 211 [pV x24] fun r25=>st (fa (aB b13) 3) [sV r25]<|dG [.slice,.slice,.slice,.slice] (aB b13) fun x26=>st (aB b2) [sV x26.1,sV x26.2.1,sV x26.2.2.1,sV x26.2.2.2.1]<|dG [.slice,.slice,.slice,.slice] (aB b2) fun x27=>ret (.tuple #[.agg #[sV x27.1,sV x27.2.1,sV x27.2.2.1,sV x27.2.2.2.1],i64 0]))
theorem F.proc.Process.calls(p0:OA)(p1:LTs [.slice,.slice,kI,kI,kI,.bool,kI]):Cf 147 [pV p0,.agg #[sV p1.1,sV p1.2.1,i64 p1.2.2.1,i64 p1.2.2.2.1,i64 p1.2.2.2.2.1,.bool p1.2.2.2.2.2.1,i64 p1.2.2.2.2.2.2.1]] (F.proc.Process p0 p1):=Tryz.cd F.proc.Process.T Tryz.func147
def F.proc.refs.T:az:=⟨(fun|3=>[(3,.slice),(10,kI)]|_=>[]),fun _=>none,(fun|7=> .held (some 19) (gF [0,1,2,3,4,5,6,7,8,9,10,11,12,13,14,15,16,17,18] (.go 19 true (gF [20,21] .nil)))|_=> .quiet)⟩
def F.proc.refs(p0:OA):Tree:=cS 67 [pV p0] fun r1=>lp [.slice,kI] (fun X2 u3=>br (decide ((u3.2.1:Int)<(r1.n:Nat))) (ix r1.a r1.n u3.2.1 6 fun a4=>dG [kI,kI,kI,kI,.bool,.slice] a4 fun x5=>nw 74 (zc Zp 74) fun b6=>st (aB b6) [i64 x5.1,i64 x5.2.1,i64 x5.2.2.1,i64 x5.2.2.2.1,.bool x5.2.2.2.2.1,sV x5.2.2.2.2.2.1]<|dI (fa (fa (aB b6) 1) 0) fun x7=>br ((x7:Int)==4) (dS (fa (aB b6) 5) fun x8=>cD<|Gl.held fun S9=>eI S9 (fa (aB b6) 0) fun x10=>eI S9 (fa (fa (aB b6) 1) 1) fun x11=>ix x8.a x8.n 0 1 fun a12=>eI S9 a12 fun x13=>ix x8.a x8.n 1 1 fun a14=>eI S9 a14 fun x15=>ix x8.a x8.n 3 1 fun a16=>eI S9 a16 fun x17=>ix x8.a x8.n 4 1 fun a18=>eI S9 a18 fun x19=>nw 315 [i64 x10,i64 x11,i64 x13,i64 x15,i64 x17,i64 x19] fun b20=>ap 274 (sV u3.1) (.slice (some ⟨b20,0,none⟩) 1 1) fun r21=>X2 (r21,IntKind.wrap .i64 (u3.2.1+1),())) (X2 (u3.1,IntKind.wrap .i64 (u3.2.1+1),()))) (cN 249 [sV u3.1,.func (.func 250) #[] #[]] [] fun r4=>ret (sV u3.1))) (⟨none,0,0⟩,0,())
theorem F.proc.refs.calls(p0:OA):Cf 205 [pV p0] (F.proc.refs p0):=Tryz.cd F.proc.refs.T Tryz.func205
def F.proc.gu.run.T:az:=⟨(fun|1=>[]|_=>[]),fun _=>none,(fun|1=> .tail 7 |3=> .held (some 15) (gF [0,1,2,3,4,5,6,7,8,9,10,11,12,13,14] (.go 15 true .nil))|_=> .quiet)⟩
def F.proc.gu.run(p0:LTs [.ptr]):Tree:=nw 279 [pV p0.1] fun b1=>lp [] (fun X2 u3=>cD<|dP (fa (aB b1) 0) fun x4=>nn x4 fun a5=>dS (fa a5 9) fun x6=>dG [.ptr] (aB b1) fun x7=>cI 257 [sV x6,.func (.func 258) #[.agg #[pV x7.1]] #[]] fun r8=>br (decide ((r8:Int)<0)) (ret (.tuple #[])) (cD<|Gl.held fun S9=>eP S9 (fa (aB b1) 0) fun x10=>nn x10 fun a11=>eP S9 (fa a11 0) fun x12=>eP S9 (fa (aB b1) 0) fun x13=>nn x13 fun a14=>eS S9 (fa a14 9) fun x15=>ix x15.a x15.n r8 6 fun a16=>eI S9 (fa a16 2) fun x17=>nw 3 [i64 x17] fun b18=>aZ S9<|cN 206 [pV x12,.slice (some ⟨b18,0,none⟩) 1 1] [] fun r19=>X2 (()))) (())
theorem F.proc.gu.run.calls(p0:LTs [.ptr]):Cf 207 [.agg #[pV p0.1]] (F.proc.gu.run p0):=Tryz.cd F.proc.gu.run.T Tryz.func207
def F.proc.common.lX.T:az:=⟨(fun|3=>[(5,.slice),(13,kI)]|_=>[]),fun _=>none,fun _=> .quiet⟩
def F.proc.common.lX(p0:OA)(p1:av):Tree:=nn p0 fun a1=>dS (fa a1 9) fun x2=>lp [.slice,kI] (fun X3 u4=>br (decide ((u4.2.1:Int)<(x2.n:Nat))) (ix x2.a x2.n u4.2.1 6 fun a5=>dG [kI,kI,kI,kI,kI,kI] a5 fun x6=>nw 315 (zc Zp 315) fun b7=>st (aB b7) [i64 x6.1,i64 x6.2.1,i64 x6.2.2.1,i64 x6.2.2.2.1,i64 x6.2.2.2.2.1,i64 x6.2.2.2.2.2.1]<|dI (fa (aB b7) 1) fun x8=>cB 227 [sV p1,i64 x8] fun r9=>br r9 (dG [kI,kI,kI,kI,kI,kI] (aB b7) fun x10=>cB 259 [pV p0,.agg #[i64 x10.1,i64 x10.2.1,i64 x10.2.2.1,i64 x10.2.2.2.1,i64 x10.2.2.2.2.1,i64 x10.2.2.2.2.2.1]] fun r11=>br r11 (dI (fa (aB b7) 0) fun x12=>nw 3 [i64 x12] fun b13=>ap 43 (sV u4.1) (.slice (some ⟨b13,0,none⟩) 1 1) fun r14=>X3 (r14,IntKind.wrap .i64 (u4.2.1+1),())) (X3 (u4.1,IntKind.wrap .i64 (u4.2.1+1),()))) (X3 (u4.1,IntKind.wrap .i64 (u4.2.1+1),()))) (ret (sV u4.1))) (⟨none,0,0⟩,0,())
theorem F.proc.common.lX.calls(p0:OA)(p1:av):Cf 208 [pV p0,sV p1] (F.proc.common.lX p0 p1):=Tryz.cd F.proc.common.lX.T Tryz.func208
def F.proc.uR.run.T:az:=⟨(fun|3=>[(3,.slice),(13,kI)]|_=>[]),fun _=>none,fun _=> .quiet⟩
def F.proc.uR.run(p0:LTs [.ptr]):Tree:=nw 281 [pV p0.1] fun b1=>dP (fa (aB b1) 0) fun x2=>nn x2 fun a3=>dS (fa (fa a3 2) 1) fun x4=>lp [.slice,kI] (fun X5 u6=>br (decide ((u6.2.1:Int)<(x4.n:Nat))) (ix x4.a x4.n u6.2.1 1 fun a7=>dI a7 fun x8=>dP (fa (aB b1) 0) fun x9=>cB 259 [pV x9,.agg #[i64 0,i64 0,i64 x8,i64 0,i64 0,i64 0]] fun r10=>br r10 (cB 227 [sV u6.1,i64 x8] fun r11=>br (!r11) (nw 3 [i64 x8] fun b12=>ap 43 (sV u6.1) (.slice (some ⟨b12,0,none⟩) 1 1) fun r13=>X5 (r13,IntKind.wrap .i64 (u6.2.1+1),())) (X5 (u6.1,IntKind.wrap .i64 (u6.2.1+1),()))) (X5 (u6.1,IntKind.wrap .i64 (u6.2.1+1),()))) (dP (fa (aB b1) 0) fun x7=>nn x7 fun a8=>dP (fa a8 0) fun x9=>cN 206 [pV x9,sV u6.1] [] fun r10=>ret (sV u6.1))) (⟨none,0,0⟩,0,())
theorem F.proc.uR.run.calls(p0:LTs [.ptr]):Cf 209 [.agg #[pV p0.1]] (F.proc.uR.run p0):=Tryz.cd F.proc.uR.run.T Tryz.func209
def F.proc.common.put.T:az:=⟨(fun|3=>[(5,.slice),(11,kI)]|_=>[]),fun _=>none,(fun|6=> .held none (gF [0,1,2,3,4,5] (.cut (gF [6,7,8,9,10,11,12,13,14,15,16] .nil)))|_=> .quiet)⟩
def F.proc.common.put(p0:OA)(p1:av):Tree:=lp [.slice,kI] (fun X1 u2=>br (decide ((u2.2.1:Int)<(p1.n:Nat))) (ix p1.a p1.n u2.2.1 1 fun a3=>dI a3 fun x4=>nw 3 (zc Zp 3) fun b5=>st (aB b5) [i64 x4]<|nn p0 fun a6=>dS (fa a6 9) fun x7=>cI 257 [sV x7,.func (.func 260) #[] #[pV (some (aB b5))]] fun r8=>cD<|Gl.held fun S9=>nn p0 fun a10=>eP S9 (fa a10 0) fun x11=>eI S9 (aB b5) fun x12=>cB 261 [pV x11,i64 x12] fun r13=>aZ S9<|narrow S9 fun S14=>br r13 (nn p0 fun a15=>eS S14 (fa a15 9) fun x16=>ix x16.a x16.n r8 6 fun a17=>eI S14 (fa a17 3) fun x18=>br (decide ((x18:Int)>0)) (dI (aB b5) fun x19=>nw 3 [i64 x19] fun b20=>ap 43 (sV u2.1) (.slice (some ⟨b20,0,none⟩) 1 1) fun r21=>X1 (r21,IntKind.wrap .i64 (u2.2.1+1),())) (X1 (u2.1,IntKind.wrap .i64 (u2.2.1+1),()))) (X1 (u2.1,IntKind.wrap .i64 (u2.2.1+1),()))) (ret (sV u2.1))) (⟨none,0,0⟩,0,())
theorem F.proc.common.put.calls(p0:OA)(p1:av):Cf 210 [pV p0,sV p1] (F.proc.common.put p0 p1):=Tryz.cd F.proc.common.put.T Tryz.func210
def F.soft.oH.T:az:=⟨(fun|3=>[(0,kI),(11,kI)]|_=>[]),fun _=>none,fun _=> .quiet⟩
def F.soft.oH(p0:Int)(p1:av):Tree:=cI 274 [i64 p0] fun r1=>lp [kI,kI] (fun X2 u3=>br (decide ((u3.2.1:Int)<(p1.n:Nat))) (ix p1.a p1.n u3.2.1 1 fun a4=>dI a4 fun x5=>cI 274 [i64 x5] fun r6=>X2 (IntKind.wrap .i64 (u3.1+(if(IntKind.wrap .i64 (9223372036854775807-u3.1):Int)<r6 then(IntKind.wrap .i64 (9223372036854775807-u3.1):Int)else r6)),IntKind.wrap .i64 (u3.2.1+1),())) (ret (i64 u3.1))) (r1,0,())
theorem F.soft.oH.calls(p0:Int)(p1:av):Cf 236 [i64 p0,sV p1] (F.soft.oH p0 p1):=Tryz.cd F.soft.oH.T Tryz.func236
def F.proc.AD(p0 p1:LTs [kI,kI,kI,kI,kI,kI]):Tree:=nw 315 [i64 p0.1,i64 p0.2.1,i64 p0.2.2.1,i64 p0.2.2.2.1,i64 p0.2.2.2.2.1,i64 p0.2.2.2.2.2.1] fun b1=>nw 315 [i64 p1.1,i64 p1.2.1,i64 p1.2.2.1,i64 p1.2.2.2.1,i64 p1.2.2.2.2.1,i64 p1.2.2.2.2.2.1] fun b2=>dI (fa (aB b1) 5) fun x3=>dI (fa (aB b2) 5) fun x4=>cI 251 [i64 x3,i64 x4] fun r5=>ret (i64 r5)
theorem F.proc.AD.calls(p0 p1:LTs [kI,kI,kI,kI,kI,kI]):Cf 250 [.agg #[i64 p0.1,i64 p0.2.1,i64 p0.2.2.1,i64 p0.2.2.2.1,i64 p0.2.2.2.2.1,i64 p0.2.2.2.2.2.1],.agg #[i64 p1.1,i64 p1.2.1,i64 p1.2.2.1,i64 p1.2.2.2.1,i64 p1.2.2.2.2.1,i64 p1.2.2.2.2.2.1]] (F.proc.AD p0 p1):=Tryz.cd az.z Tryz.func250
def F.proc.gu.kept.T:az:=⟨fun _=>[],fun _=>none,(fun|1=> .held (some 49) (gF [0,1,2,3,4,5,6,7,8,9,10,11,12,13,14,15,16,17,18,19,20] (.cut (gF [21,22,23,24,25,26] (.cut (gF [27,28,29,30,31,32,33,34,35,36,37,38,39,40,41,42,43,44,45,46,47,48] (.go 49 true (gF [50,51] .nil)))))))|_=> .quiet)⟩
def F.proc.gu.kept(p0:LTs [.ptr])(p1:LTs [kI,kI,kI,kI,kI,kI]):Tree:=nw 279 [pV p0.1] fun b1=>nw 315 [i64 p1.1,i64 p1.2.1,i64 p1.2.2.1,i64 p1.2.2.2.1,i64 p1.2.2.2.2.1,i64 p1.2.2.2.2.2.1] fun b2=>cD<|Gl.held fun S3=>eI S3 (fa (aB b2) 1) fun x4=>br ((x4:Int)==1) (eP S3 (fa (aB b1) 0) fun x5=>nn x5 fun a6=>eB S3 (fa (fa a6 2) 5) fun x7=>br (!x7) (eP S3 (fa (aB b1) 0) fun x8=>nn x8 fun a9=>eP S3 (fa a9 0) fun x10=>eI S3 (fa (aB b2) 0) fun x11=>cB 261 [pV x10,i64 x11] fun r12=>aZ S3<|narrow S3 fun S13=>br r12 (eP S13 (fa (aB b1) 0) fun x14=>eG S13 [kI,kI,kI,kI,kI,kI] (aB b2) fun x15=>cB 259 [pV x14,.agg #[i64 x15.1,i64 x15.2.1,i64 x15.2.2.1,i64 x15.2.2.2.1,i64 x15.2.2.2.2.1,i64 x15.2.2.2.2.2.1]] fun r16=>aZ S13<|narrow S13 fun S17=>br r16 (eP S17 (fa (aB b1) 0) fun x18=>nn x18 fun a19=>eI S17 (fa (fa a19 2) 2) fun x20=>eI S17 (fa (aB b2) 4) fun x21=>eP S17 (fa (aB b1) 0) fun x22=>nn x22 fun a23=>eI S17 (fa (fa a23 2) 3) fun x24=>eP S17 (fa (aB b1) 0) fun x25=>nn x25 fun a26=>eI S17 (fa (fa a26 2) 4) fun x27=>cB 298 [i64 x20,i64 x21,i64 x24,i64 x27] fun r28=>ret (.bool r28)) (ret (.bool false))) (narrow S13 fun S14=>ret (.bool false))) (narrow S3 fun S8=>narrow S8 fun S9=>ret (.bool false))) (narrow S3 fun S5=>narrow S5 fun S6=>ret (.bool false))
theorem F.proc.gu.kept.calls(p0:LTs [.ptr])(p1:LTs [kI,kI,kI,kI,kI,kI]):Cf 258 [.agg #[pV p0.1],.agg #[i64 p1.1,i64 p1.2.1,i64 p1.2.2.1,i64 p1.2.2.2.1,i64 p1.2.2.2.2.1,i64 p1.2.2.2.2.2.1]] (F.proc.gu.kept p0 p1):=Tryz.cd F.proc.gu.kept.T Tryz.func258
def F.proc.common.lost.T:az:=⟨fun _=>[],fun _=>none,(fun|1=> .held (some 6) (gF [0,1,2,3,4,5] (.two (.go 6 true (gF [7,8,9,10,11,12] .nil)) (gF [10] (.go 6 true (gF [7,8,9,11,12] .nil)))))|2=> .tail 9 |_=> .quiet)⟩
def F.proc.common.lost(p0:OA)(p1:LTs [kI,kI,kI,kI,kI,kI]):Tree:=nw 315 [i64 p1.1,i64 p1.2.1,i64 p1.2.2.1,i64 p1.2.2.2.1,i64 p1.2.2.2.2.1,i64 p1.2.2.2.2.2.1] fun b1=>cD<|Gl.held fun S2=>nn p0 fun a3=>eP S2 (fa a3 1) fun x4=>eI S2 (fa (aB b1) 2) fun x5=>both (cN 137 [pV x4,i64 x5] [.g [kI,kI,kI,.bool],.l kI] fun r6=>nw 72 (zc Zp 72) fun b7=>st (aB b7) [i64 r6.1.1,i64 r6.1.2.1,i64 r6.1.2.2.1,.bool r6.1.2.2.2.1]<|cD<|br ((r6.2.1:Int)==0) (nn p0 fun a8=>dP (fa a8 0) fun x9=>dI (fa (aB b1) 2) fun x10=>cB 261 [pV x9,i64 x10] fun r11=>ret (.bool (!r11))) (ret (.bool false))) (nw 72 (zc Zp 72) fun b8=>aZ S2<|cN 137 [pV x4,i64 x5] [.g [kI,kI,kI,.bool],.l kI] fun r9=>st (aB b8) [i64 r9.1.1,i64 r9.1.2.1,i64 r9.1.2.2.1,.bool r9.1.2.2.2.1]<|cD<|br ((r9.2.1:Int)==0) (nn p0 fun a10=>dP (fa a10 0) fun x11=>dI (fa (aB b1) 2) fun x12=>cB 261 [pV x11,i64 x12] fun r13=>ret (.bool (!r13))) (ret (.bool false)))
theorem F.proc.common.lost.calls(p0:OA)(p1:LTs [kI,kI,kI,kI,kI,kI]):Cf 259 [pV p0,.agg #[i64 p1.1,i64 p1.2.1,i64 p1.2.2.1,i64 p1.2.2.2.1,i64 p1.2.2.2.2.1,i64 p1.2.2.2.2.2.1]] (F.proc.common.lost p0 p1):=Tryz.cd F.proc.common.lost.T Tryz.func259
def F.proc.common.E0(p0:LTs [kI,kI,kI,kI,kI,kI])(c0:OA):Tree:=nw 315 [i64 p0.1,i64 p0.2.1,i64 p0.2.2.1,i64 p0.2.2.2.1,i64 p0.2.2.2.2.1,i64 p0.2.2.2.2.2.1] fun b1=>dI (fa (aB b1) 0) fun x2=>nn c0 fun a3=>dI a3 fun x4=>ret (.bool ((x2:Int)==x4))
theorem F.proc.common.E0.calls(p0:LTs [kI,kI,kI,kI,kI,kI])(c0:OA):Cf 260 [.agg #[i64 p0.1,i64 p0.2.1,i64 p0.2.2.1,i64 p0.2.2.2.1,i64 p0.2.2.2.2.1,i64 p0.2.2.2.2.2.1],pV c0] (F.proc.common.E0 p0 c0):=Tryz.cd az.z Tryz.func260
def F.soft.none(p0:Int):Tree:=ret (i64 (if(p0:Int)>0 then(p0:Int)else 0))
theorem F.soft.none.calls(p0:Int):Cf 274 [i64 p0] (F.soft.none p0):=Tryz.cd az.z Tryz.func274
def F.soft.Bn(p0 p1 p2 p3:Int):Tree:=cI 317 [i64 p0,i64 p1] fun r1=>cI 318 [i64 p2,i64 p3] fun r2=>ret (.bool (decide ((r1:Int)≤r2)))
theorem F.soft.Bn.calls(p0 p1 p2 p3:Int):Cf 298 [i64 p0,i64 p1,i64 p2,i64 p3] (F.soft.Bn p0 p1 p2 p3):=Tryz.cd az.z Tryz.func298
def F.soft.Idle(p0 p1:Int):Tree:=cI 274 [i64 p0] fun r1=>cI 274 [i64 p1] fun r2=>cI 274 [i64 (IntKind.wrap .i64 (r1-r2))] fun r3=>ret (i64 r3)
theorem F.soft.Idle.calls(p0 p1:Int):Cf 317 [i64 p0,i64 p1] (F.soft.Idle p0 p1):=Tryz.cd az.z Tryz.func317
def F.soft.sd(p0 p1:Int):Tree:=cI 274 [i64 p0] fun r1=>cI 274 [i64 p1] fun r2=>cN 327 [.int .u64 (IntKind.wrap .u64 r1),.int .u64 (IntKind.wrap .u64 r2)] [.l (.int .u64),.l (.int .u64)] fun r3=>br (decide ((r3.1:Int)>0)) (ret (i64 9223372036854775807)) (br (decide ((r3.2.1:Int)>9223372036854775807)) (ret (i64 9223372036854775807)) (ret (i64 (IntKind.wrap .i64 r3.2.1))))
theorem F.soft.sd.calls(p0 p1:Int):Cf 318 [i64 p0,i64 p1] (F.soft.sd p0 p1):=Tryz.cd az.z Tryz.func318
end
end Go.Proofs.YtjginndmmlkjiaaGreat
namespace Go.Gl
open Go
variable{ρ0 ρ:FR}{L L':List aD}{Post:Value→List aD→Prop}
theorem wu{s:av}{m:Nat}{xs:List Value}{a0 a:Addr}{j:Nat}(hs:s.a=some a0)(t:Take L (aw s m xs) L')(ha:∀b o,a0=⟨b,o,none⟩→a=⟨b,o+j,none⟩):
  ∀(ks:List LK) (i:Nat) {f:LTs ks→Tree} {x:LTs ks} (_:∀e v,(fq ks x)[e]? =some v→xs[j+i+e]? =some v) (_:Tr ρ0 ρ L (f x) Post),Tr ρ0 ρ L (JL a i ks f) Post
 |[],i,f,x,_,h=>h
 |k::ks,i,f,x,hv,h=>by exact cw hs t (fun b o e=>by rw[ha b o e,aO,Nat.add_assoc]) (by simpa using hv 0 _ rfl)<|wu hs t ha _ _ (fun e v he=>by have:=hv (e+1) v he;grind) h
theorem F5{M M':List aD}{s:av}{m:Nat}{xs:List Value}{k:LK}{a a0:Addr}{f:LT k→Tree}{j:Nat}{x:LT k}(hs:s.a=some a0)(t:Take M (aw s m xs) M')(ha:∀b o,a0=⟨b,o,none⟩→a=⟨b,o+j,none⟩)
  (hx:xs[j]? =some (k.val x)) (h:Tr ρ0 ρ L (f x) Post):Tr ρ0 ρ L (xY (Sat ρ M) k a f) Post:=fun hle w hw=>by
 refine⟨x,fun w' hw'=>?_,h hle w hw⟩;rcases(hw'.perm t.perm).sl with ⟨g1,_⟩|⟨b,off,pre,rest,g1,g2,g3,g4,g5,g6⟩;·rw[hs]at g1;cases g1
 ·rw[hs]at g1;injection g1 with g1;obtain⟨ty,hb⟩:=g6.cl;rw[ha b off g1];apply cell_of hb;grind
theorem tA{M M':List aD}{s:av}{m:Nat}{xs:List Value}{a0 a:Addr}{j:Nat}(hs:s.a=some a0)(t:Take M (aw s m xs) M')(ha:∀b o,a0=⟨b,o,none⟩→a=⟨b,o+j,none⟩):
  ∀(ks:List LK) (i:Nat) {f:LTs ks→Tree} {x:LTs ks} (_:∀e v,(fq ks x)[e]? =some v→xs[j+i+e]? =some v) (_:Tr ρ0 ρ L (f x) Post),Tr ρ0 ρ L (Du (Sat ρ M) a i ks f) Post
 |[],i,f,x,_,h=>h
 |k::ks,i,f,x,hv,h=>by exact F5 hs t (fun b o e=>by rw[ha b o e,aO,Nat.add_assoc]) (by simpa using hv 0 _ rfl)<|tA hs t ha _ _ (fun e v he=>by have:=hv (e+1) v he;grind) h
end Go.Gl
namespace Go.Proofs.YtjginndmmlkjiaaGreat
open Go Go.Gl
variable{ρ0 ρ:FR}{L L':List aD}{Post:Value→List aD→Prop}{T:Tree}
abbrev KR:List LK:=[kI,kI,kI,kI,kI,kI]
abbrev da:Type:=LTs KR
def rc(r:da):List Value:=fq KR r
theorem iY(r:da):(rc r).length=6:=rfl
def d6:da:=((0:Int),(0:Int),(0:Int),(0:Int),(0:Int),(0:Int),())
def bQ(r:da):Int:=r.2.2.2.2.2.1
theorem u1{s:av}{l:List da}(t:Take L (aw s 6 (l.flatMap rc)) L')(h:s.n=l.length→Tr ρ0 ρ L T Post):Tr ρ0 ρ L T Post:=by refine Tr.fA t fun hn _=>h ?_;rw[ji (g:=rc) (m:=6) iY]at hn;omega
theorem l7{s:av}{l:List da}{i:Int}{f:da→Tree}(t:Take L (aw s 6 (l.flatMap rc)) L')(h0:0≤i)(h1:i<l.length)(h:Tr ρ0 ρ L (f (l.getD i.toNat d6)) Post):
  Tr ρ0 ρ L (ix s.a s.n i 6 fun a=>ld (.g KR) a f) Post:=by
 refine u1 t fun hn=>bD t h0 ae fun a0 ha=>?_;have hi:l[i.toNat]? =some (l.getD i.toNat d6):=by grind
 refine wu ha t fX _ 0 (fun e v he=>?_) h;have hlt:e<6:=(List.getElem?_eq_some_iff.1 he).1;rw[Nat.add_zero,eJ (g:=rc) (m:=6) iY hi hlt];exact he
theorem kH{M M':List aD}{s:av}{l:List da}{i:Int}{f:da→Tree}(t0:Take L (aw s 6 (l.flatMap rc)) L')(t:Take M (aw s 6 (l.flatMap rc)) M')(h0:0≤i)(h1:i<l.length)(h:Tr ρ0 ρ L (f (l.getD i.toNat d6)) Post):
  Tr ρ0 ρ L (ix s.a s.n i 6 fun a=>rb (Sat ρ M) (.g KR) a f) Post:=by
 refine u1 t0 fun hn=>bD t0 h0 ae fun a0 ha=>?_;have hi:l[i.toNat]? =some (l.getD i.toNat d6):=by grind
 refine tA ha t fX _ 0 (fun e v he=>?_) h;have hlt:e<6:=(List.getElem?_eq_some_iff.1 he).1;rw[Nat.add_zero,eJ (g:=rc) (m:=6) iY hi hlt];exact he
theorem DW{l:List da}{i:Nat}{r:da}(h:i<l.length):cH (l.flatMap rc) (i*6) (rc r)=(l.set i r).flatMap rc:=by
 have e:l=l.take i++l[i]::l.drop (i+1):=by simp
 have hp:((l.take i).flatMap rc).length=i*6:=by rw[ji iY,List.length_take];omega
 have e2:l.set i r=l.take i++r::l.drop (i+1):=by grind
 rw[e2,List.flatMap_append,List.flatMap_cons];have e3:l.flatMap rc=(l.take i).flatMap rc++(rc l[i]++(l.drop (i+1)).flatMap rc):=by grind
 rw[e3,←hp];have:=pW (pre:=(l.take i).flatMap rc) (xs:=rc l[i]) (rest:=(l.drop (i+1)).flatMap rc) (vs:=rc r) (j:=0) (by rw[iY,iY];omega);simp only[Nat.add_zero]at this;rw[this];rfl
theorem lQ{s:av}{l:List da}{i:Int}{r:da}{k:Tree}(t:Take L (aw s 6 (l.flatMap rc)) L')(h0:0≤i)(h1:i<l.length)(h:Tr ρ0 ρ (aw s 6 ((l.set i.toNat r).flatMap rc)::L') k Post):
  Tr ρ0 ρ L (ix s.a s.n i 6 fun a=>st a (rc r) k) Post:=by refine u1 t fun hn=>bD t h0 ae fun a0 ha=>iR ha t fX (by rw[ji iY,iY];omega) rfl ?_;rw[DW ae];exact h
def ET(l:List da)(i j:Nat):List da:=(l.set i (l.getD j d6)).set j (l.getD i d6)
theorem Ba{l:List da}{i j:Nat}:(ET l i j).length=l.length:=by simp[ET]
theorem mw{l:List da}{k:Nat}(h:l.length≤k):l.getD k d6=d6:=by grind
theorem pN{l:List da}{i j k:Nat}(hi:i<l.length)(hj:j<l.length):(ET l i j).getD k d6=if k=j then l.getD i d6 else if k=i then l.getD j d6 else l.getD k d6:=by
 rcases Nat.lt_or_ge k l.length with hk|hk;·unfold ET;grind
 ·rw[mw (by rw[Ba];exact hk),if_neg ae,if_neg ae,mw hk]
theorem B3{l:List da}{i j:Nat}(hi:i<l.length)(hj:j<l.length):(ET l i j).Perm l:=by unfold ET;grind
theorem pI(s:av)(l:List da)(a b n:Nat)(v:Value)(hab:a+n≤b)(hb:b+n≤l.length)(hl:l.length<2^40):Gl.Spec ρ Zp 331 [.slice s.a s.n s.c,i64 a,i64 b,i64 n,v] [aw s 6 (l.flatMap rc)] (.many [])
  fun _ M=>∃l':List da,M=[aw s 6 (l'.flatMap rc)]∧l'.length=l.length∧l'.Perm l∧∀k,l'.getD k d6=if a≤k∧k<a+n then l.getD (k+b-a) d6 else if b≤k∧k<b+n then l.getD (k+a-b) d6 else l.getD k d6:=by
 refine So (F.aL.fw.calls s a b n v) fun R=>aM (fun m u M=>(fun i:Int=>∃l':List da,M=aw s 6 (l'.flatMap rc)::R∧0≤i∧i≤n∧m=n-i.toNat∧l'.length=l.length∧l'.Perm l∧∀k,l'.getD k d6=if a≤k∧k<a+i.toNat then l.getD (k+b-a) d6 else if b≤k∧k<b+i.toNat then l.getD (k+a-b) d6 else l.getD k d6) u.1) n ?_ ?_;·grind
 ·rintro m ⟨(i:Int),⟨⟩⟩ M ⟨l1,rfl,i0,i1,rfl,hl1,hp,hg⟩ X hX;refine ag (fun h=>?_) (fun h=>?_)
  ·replace h:i<n:=oT h;obtain⟨iN,rfl⟩:=Int.eq_ofNat_of_zero_le i0;simp only[Int.toNat_natCast]at*;rw[wrap64 (n:=(b:Int)+iN) ae ae,wrap64 (n:=(a:Int)+iN) ae ae,wrap64 (n:=(iN:Int)+1) ae ae];refine aA (aK [aw s 6 _] ar ?_);refine kH tk tk ae ae<|kH tk tk ae ae<|lQ tk ae ae<|lQ (l:=l1.set (a+iN) _) tk ae fC<|hX (n-(iN+1)) _ _ ae ⟨ET _ _ _,rfl,bq,bq,bq,by rw[Ba,hl1],(B3 ae ae).trans hp,fun k=>?_⟩;rw[pN ae ae,show((iN:Int)+1).toNat=iN+1 by omega];by_cases h1:k=b+iN;·grind
   grind
  ·replace h:¬i<n:=oF h;rw[show i.toNat=n by omega]at hg;exact rT ⟨l1,rfl,hl1,hp,hg⟩
def pR(l:List da)(a m b k:Nat):da:=if a≤k∧k<a+(b-m)then l.getD (k+m-a) d6 else if a+(b-m)≤k∧k<b then l.getD (k-(b-m)) d6 else l.getD k d6
theorem yy(s:av)(l:List da)(a m b:Nat)(v:Value)(ham:a<m)(hmb:m<b)(hb:b≤l.length)(hl:l.length<2^40):Gl.Spec ρ Zp 326 [.slice s.a s.n s.c,i64 a,i64 m,i64 b,v] [aw s 6 (l.flatMap rc)] (.many [])
  fun _ M=>∃l':List da,M=[aw s 6 (l'.flatMap rc)]∧l'.length=l.length∧l'.Perm l∧∀k,l'.getD k d6=pR l a m b k:=by
 refine So (F.aL.fH.calls s a m b v) fun R=>?_;unfold F.aL.fH;rw[wrap64 (n:=(m:Int)-a) ae ae,wrap64 (n:=(b:Int)-m) ae ae];refine aM (fun f u M=>(fun(i j:Int)=>∃(C:List da) (p q:Nat),i=p∧j=q∧M=aw s 6 (C.flatMap rc)::R∧1≤p∧1≤q∧p≤m∧m+q≤b∧f=p+q∧C.length=l.length∧C.Perm l∧(∀k,(k<m-p∨m+q≤k)→C.getD k d6=pR l a m b k)∧
  ∀k,m-p≤k→k<m+q→pR l a m b k=if k<m-p+q then C.getD (k+p) d6 else C.getD (k-q) d6) u.1 u.2.1) ((m-a)+(b-m)) ?_ ?_
 ·refine⟨l,m-a,b-m,bq,bq,rfl,ae,ae,ae,ae,rfl,rfl,.refl _,fun k hk=>?_,fun k h1 h2=>?_⟩;·unfold pR;grind
  ·unfold pR;grind
 ·rintro f ⟨(i:Int),(j:Int),⟨⟩⟩ M ⟨C,p,q,hi,hj,rfl,p1,q1,pm,qb,rfl,hC,hp,hout,hin⟩ X hX;subst hi hj;rw[bG (n:=(m:Int)-p),show(m:Int)-p=((m-p:Nat):Int) by omega];refine ag (fun h=>?_) (fun h=>?_)
  ·have h:p≠q:=by grind
   refine ag (fun h2=>?_) (fun h2=>?_)
   ·replace h2:(p:Int)>q:=oT h2;apply ai (pI s C _ m q v ae ae ae) ar;rintro x' M ⟨C',rfl,hC',hp',hg⟩;rw[bG (n:=(p:Int)-q)];refine hX _ _ _ ae ⟨C',p-q,q,bq,rfl,rfl,ae,q1,ae,qb,rfl,ae,hp'.trans hp,fun k hk=>?_,fun k h3 h4=>?_⟩
    ·rw[hg];by_cases h5:m-p≤k∧k<m-p+q;·rw[if_pos h5,hin k ae ae,if_pos ae];congr 1;omega
     grind
    ·rw[hin k ae ae,if_neg ae];by_cases h5:k<m-(p-q)+q;·rw[if_pos h5,hg,if_neg ae,if_pos ae];congr 1;omega
     grind
   ·replace h2:¬(p:Int)>q:=oF h2;rw[wrap64 (n:=(m:Int)+q) ae ae,wrap64 (n:=(m:Int)+q-p) ae ae,show(m:Int)+q-p=((m+q-p:Nat):Int) by omega];apply ai (pI s C _ _ p v ae ae ae) ar;rintro x' M ⟨C',rfl,hC',hp',hg⟩;rw[bG (n:=(q:Int)-p)];refine hX _ _ _ ae ⟨C',p,q-p,rfl,bq,rfl,p1,ae,pm,ae,rfl,ae,hp'.trans hp,fun k hk=>?_,fun k h3 h4=>?_⟩
    ·rw[hg];by_cases h5:m+q-p≤k∧k<m+q-p+p;·rw[if_neg ae,if_pos h5,hin k ae ae,if_neg ae];congr 1;omega
     grind
    ·rw[hin k ae ae,if_pos ae];by_cases h5:k<m-p+(q-p);·grind
     ·rw[if_neg h5,hg,if_pos ae];congr 1;omega
  ·have h:p=q:=by grind
   subst h;apply ai (pI s C _ m p v ae ae ae) ar;rintro x' M ⟨C',rfl,hC',hp',hg⟩;refine ax (x:=()) rfl ⟨C',rfl,ae,hp'.trans hp,fun k=>?_⟩ ar bE;rw[hg];by_cases h5:m-p≤k∧k<m+p
   ·rw[hin k h5.1 h5.2];by_cases h6:k<m-p+p;·rw[if_pos h6,if_pos ae];congr 1;omega
    ·rw[if_neg h6,if_neg ae,if_pos ae];congr 1;omega
   grind
structure fg(a b:Nat)(l l':List da):Prop where
 len:l'.length=l.length
 perm:l'.Perm l
 out:∀k,(k<a∨b≤k)→l'.getD k d6=l.getD k d6
 Lx:∀k,a≤k→k<b→∃c,a≤c∧c<b∧l'.getD k d6=l.getD c d6
theorem fg.refl{a b:Nat}{l:List da}:fg a b l l:=⟨rfl,.refl _,fun _ _=>rfl,fun k h1 h2=>⟨k,h1,h2,rfl⟩⟩
theorem fg.trans{a b:Nat}{l l' l'':List da}(h:fg a b l l')(h':fg a b l' l''):fg a b l l'':=by refine⟨h'.len.trans h.len,h'.perm.trans h.perm,fun k hk=>(h'.out k hk).trans (h.out k hk),fun k h1 h2=>?_⟩;obtain⟨c,c1,c2,e⟩:=h'.Lx k h1 h2;obtain⟨c',c1',c2',e'⟩:=h.Lx c c1 c2;grind
theorem fg.mono{a b a' b':Nat}{l l':List da}(h:fg a b l l')(ha:a'≤a)(hb:b≤b'):fg a' b' l l':=by
 refine⟨h.len,h.perm,fun k hk=>h.out k ae,fun k h1 h2=>?_⟩;by_cases hk:a≤k∧k<b;·obtain⟨c,c1,c2,e⟩:=h.Lx k hk.1 hk.2;grind
 ·exact⟨k,h1,h2,h.out k ae⟩
theorem fg.sw{a b i j:Nat}{l:List da}(hi:a≤i)(hi2:i<b)(hj:a≤j)(hj2:j<b)(hb:b≤l.length):fg a b l (ET l i j):=by
 refine⟨Ba,B3 ae ae,fun k hk=>?_,fun k h1 h2=>?_⟩;·rw[pN ae ae,if_neg ae,if_neg ae]
 ·rw[pN ae ae];grind
def jx(a b:Nat)(l:List da):Prop:=∀i j,a≤i→i<j→j<b→bQ (l.getD i d6)≤bQ (l.getD j d6)
def AM:Value:= .func (.func 250) #[] #[]
theorem CA(x:Int):Gl.Spec ρ Zp 294 [i64 x] [] RB fun r M=>r=false∧M=[]:=by refine So (F.cmp.isNaN.calls x) fun R=>ax ?_ ⟨rfl,rfl⟩ ar bE;simp;rfl
theorem zk(x y:Int):Gl.Spec ρ Zp 251 [i64 x,i64 y] [] R1 fun r M=>(r<0↔x<y)∧M=[]:=by
 refine So (F.cmp.Compare.calls x y) fun R=>cE (CA x)<|cE (CA y)<|ak rfl (ak rfl (ag (fun h=>?_) (fun h=>ag (fun h2=>?_) (fun h2=>?_))));·have h:=oT h;exact rT ⟨⟨fun _=>h,fun _=>by decide⟩,rfl⟩
 ·have h:=oF h;exact rT ⟨⟨fun g=>absurd g bd,fun g=>absurd g h⟩,rfl⟩
 ·have h:=oF h;exact rT ⟨⟨fun g=>absurd g bd,fun g=>absurd g h⟩,rfl⟩
theorem Fm(x y:da):Gl.Spec ρ Zp 250 [.agg (rc x).toArray,.agg (rc y).toArray] [] R1 fun r M=>(r<0↔bQ x<bQ y)∧M=[]:=by refine So (F.proc.AD.calls x y) fun R=>?_;obtain⟨x1,x2,x3,x4,x5,x6,⟨⟩⟩:=x;obtain⟨y1,y2,y3,y4,y5,y6,⟨⟩⟩:=y;refine aq fun b1=>aq fun b2=>lI _ 5 x6<|lI _ 5 y6<|ai (zk _ _) ar ?_;rintro r M ⟨hr,rfl⟩;exact rT ⟨hr,rfl⟩
theorem wS{x y:da}{k:Int→Tree}(h:∀r:Int,(r<0↔bQ x<bQ y)→Tr ρ0 ρ L (k r) Post):Tr ρ0 ρ L (lu Zp AM [.agg (rc x).toArray,.agg (rc y).toArray] R1 k) Post:=by refine mK Tryz.func250 (by kernel_rfl) (Fm x y) .nil ?_;rintro r M ⟨hr,rfl⟩;exact h r hr
theorem su(s:av)(l:List da)(a b:Nat)(hab:a≤b)(hb:b≤l.length)(hl:l.length<2^40):Gl.Spec ρ Zp 315 [.slice s.a s.n s.c,i64 a,i64 b,AM] [aw s 6 (l.flatMap rc)] (.many [])
  fun _ M=>∃l':List da,M=[aw s 6 (l'.flatMap rc)]∧fg a b l l'∧jx a b l':=by
 refine So (F.aL.dc.calls s a b _) fun R=>?_;unfold F.aL.dc;rw[bG (n:=(a:Int)+1)];refine aM (fun m u M=>(fun i:Int=>∃(C:List da) (p:Nat),i=p∧M=aw s 6 (C.flatMap rc)::R∧a+1≤p∧m=b+1-p∧fg a b l C∧(p≤b→jx a p C)∧(b<p→jx a b C)) u.1) (b-a) ?_ ?_;·exact⟨l,a+1,bq,rfl,ae,ae,.refl,fun _ i j h1 h2 h3=>by omega,fun _ i j h1 h2 h3=>by omega⟩
 ·rintro m ⟨(i:Int),⟨⟩⟩ M ⟨C,p,hi,rfl,p1,rfl,hS,hs1,hs2⟩ X hX;subst hi;refine ag (fun h=>?_) (fun h=>?_)
  ·replace h:(p:Int)<b:=oT h;have hs:=hs1 ae;rw[bG (n:=(p:Int)+1)];refine aM (fun m u M=>(fun j:Int=>∃(D:List da) (q:Nat),j=q∧M=aw s 6 (D.flatMap rc)::R∧a≤q∧q≤p∧m=q∧fg a b l D∧∀i j,a≤i→i<j→j<p+1→j≠q→bQ (D.getD i d6)≤bQ (D.getD j d6)) u.1) p ?_ ?_;·exact⟨C,p,rfl,rfl,ae,ae,rfl,hS,fun i j h1 h2 h3 h4=>hs i j h1 h2 ae⟩
   ·rintro m ⟨(j:Int),⟨⟩⟩ M ⟨D,q,hj,rfl,q1,q2,hmq,hD,hq⟩ Y hY;subst hj;have hlD:=hD.len;have done:(q=a∨bQ (D.getD (q-1) d6)≤bQ (D.getD q d6))→Tr ρ ρ (aw s 6 (D.flatMap rc)::R) (X ((p:Int)+1,())) (SP (.many []) (fun _ M=>∃l':List da,M=[aw s 6 (l'.flatMap rc)]∧fg a b l l'∧jx a b l') R):=fun hc=>by
     have hsr:jx a (p+1) D:=fun i j h1 h2 h3=>by
      by_cases hjq:j=q
      ·rw[hjq];rcases hc with hc|hc;·omega
       ·by_cases hi:i=q-1;·rw[hi];exact hc
        ·exact Int.le_trans (hq i _ h1 ae ae ae) hc
      grind
     exact hX _ _ _ ae ⟨D,p+1,bq,rfl,ae,rfl,hD,fun _=>hsr,fun hp=>by omega⟩
    refine aA (ag (fun h2=>?_) (fun h2=>done (.inl eV)));replace h2:(q:Int)>a:=oT h2;rw[bG (n:=(q:Int)-1),show(q:Int)-1=((q-1:Nat):Int) by omega];refine l7 tk ae ae<|l7 tk ae ae ?_;simp only[Int.toNat_natCast];refine wS fun r hr=>ag (fun h3=>?_) (fun h3=>done (.inr eV));have h3:=oT h3;refine aA (aK [aw s 6 _] ar ?_);refine kH tk tk ae ae<|kH tk tk ae ae<|lQ tk ae ae<|lQ (l:=D.set q (D.getD (q-1) _)) (r:=D.getD q _) tk ae fC<|hY _ _ _ ae ⟨ET D q _,q-1,rfl,rfl,ae,ae,rfl,hD.trans (.sw ae ae ae ae ae),fun i j g1 g2 g3 g4=>?_⟩;rw[pN ae ae,pN ae ae,if_neg g4];by_cases e1:j=q
    ·rw[if_pos e1];by_cases e2:i=q-1;·rw[if_pos e2];omega
     ·rw[if_neg e2,if_neg ae];exact hq i _ g1 ae ae ae
    ·rw[if_neg e1];by_cases e2:i=q-1;·grind
     ·rw[if_neg e2];by_cases e3:i=q;·rw[if_pos e3];exact hq _ j ae ae g3 e1
      grind
  ·refine ax (x:=()) rfl ⟨C,rfl,hS,?_⟩ ar bE;grind
theorem jq{n:Int}(h0:0≤n)(h1:n<18446744073709551616):IntKind.wrap .u64 n=n:=by unfold IntKind.wrap IntKind.bits IntKind.signed;grind
theorem half{x y:Int}{n:Nat}(hn:x+y=n)(h:n<2^42):IntKind.wrap .i64 (Int.fdiv (IntKind.wrap .u64 (IntKind.wrap .i64 (x+y))) (2^(min (1:Int).toNat (IntKind.bits .u64))))=((n/2:Nat):Int):=by
 rw[hn,bG (n:=(n:Int)),jq ae ae];have e:(2^(min (1:Int).toNat (IntKind.bits .u64)):Int)=2:=by decide
 rw[e,Int.fdiv_eq_ediv_of_nonneg _ ae,bG];omega
abbrev rI(s:av)(l:List da)(a b:Nat):RT (.many [])→List aD→Prop:=fun _ M=>∃l':List da,M=[aw s 6 (l'.flatMap rc)]∧fg a b l l'∧jx a b l'
theorem fg.HD{a b t m e:Nat}{l l1:List da}(h1:a≤t)(h2:t≤m)(h3:m≤e)(h4:e≤b)(hl:l1.length=l.length)(hp:l1.Perm l)(hg:∀k,l1.getD k d6=pR l t m e k):fg a b l l1:=by
 refine⟨hl,hp,fun k hk=>?_,fun k k1 k2=>?_⟩;·rw[hg];unfold pR;grind
 ·rw[hg];unfold pR;split;·exact⟨k+m-t,ae,ae,rfl⟩
  ·split;·exact⟨k-_,ae,ae,rfl⟩
   ·exact⟨k,k1,k2,rfl⟩
theorem zw(s:av)(l:List da)(a b:Nat)(hmb:a+1<b)(hb:b≤l.length)(hl:l.length<2^40)(h2:jx (a+1) b l):Gl.Spec ρ Zp 316 [.slice s.a s.n s.c,i64 a,i64 (a+1:Nat),i64 b,AM] [aw s 6 (l.flatMap rc)] (.many []) (rI s l a b):=by
 refine So (F.aL.dC.calls s a _ b _) fun R=>bg (by rw[bG];simp;omega)<|aM (fun f u M=>(fun(i j:Int)=>∃p q:Nat,i=p∧j=q∧M=aw s 6 (l.flatMap rc)::R∧a+1≤p∧p≤q∧q≤b∧f=q-p∧(∀k,a+1≤k→k<p→bQ (l.getD k d6)<bQ (l.getD a d6))∧∀k,q≤k→k<b→bQ (l.getD a d6)≤bQ (l.getD k d6)) u.1 u.2.1) (b-(a+1)) ?_ ?_;·exact⟨a+1,b,rfl,rfl,rfl,ae,ae,ae,rfl,fun k g1 g2=>by omega,fun k g1 g2=>by omega⟩
 ·rintro f ⟨(i:Int),(j:Int),⟨⟩⟩ M ⟨p,q,hi,hj,rfl,p1,p2,p3,rfl,hlo,hhi⟩ X hX;subst hi hj;refine ag (fun h=>?_) (fun h=>?_)
  ·replace h:(p:Int)<q:=oT h;rw[half (x:=p) (y:=q) (n:=p+q) ae ae];refine bm bd (aA ?_);refine l7 tk ae ae<|l7 tk ae ae ?_;simp only[Int.toNat_natCast];refine wS fun r hr=>?_;rw[bG (n:=(((p+q)/2:Nat):Int)+1)];refine ag (fun h3=>?_) (fun h3=>?_)
   ·have h3:=oT h3;rw[hr]at h3;refine hX _ _ _ ae ⟨(p+q)/2+1,q,bq,rfl,rfl,ae,ae,p3,rfl,fun k g1 g2=>?_,hhi⟩;by_cases hk:k=(p+q)/2;·rw[hk];exact h3
    ·exact Int.lt_of_le_of_lt (h2 k _ g1 ae ae) h3
   ·have h3:=oF h3;refine hX _ _ _ ae ⟨p,_/2,rfl,rfl,rfl,p1,ae,ae,rfl,hlo,fun k g1 g2=>?_⟩;by_cases hk:k=(p+q)/2;·rw[hk];omega
    ·exact Int.le_trans ae (h2 ((p+q)/2) k ae ae g2)
  ·replace h:¬(p:Int)<q:=oF h;rw[bG (n:=(p:Int)-1)];refine aM (fun f u M=>(fun(k:Int)=>∃(C:List da) (c:Nat),k=c∧M=aw s 6 (C.flatMap rc)::R∧a≤c∧c≤p-1∧f=p-c∧fg a b l C∧∀x,C.getD x d6=if a≤x∧x<c then l.getD (x+1) d6 else if x=c then l.getD a d6 else l.getD x d6) u.1) (p-a) ?_ ?_;·refine⟨l,a,rfl,rfl,ae,ae,rfl,.refl,fun x=>?_⟩;grind
   ·rintro f ⟨(k:Int),⟨⟩⟩ M ⟨C,c,hk,rfl,c1,c2,rfl,hC,hg⟩ Y hY;subst hk;have hlC:=hC.len;refine ag (fun h=>?_) (fun h=>?_);·replace h:(c:Int)<(p:Int)-1:=oT h;rw[bG (n:=(c:Int)+1),show(c:Int)+1=((c+1:Nat):Int) by omega];refine aA (aK [aw s 6 _] ar ?_);refine kH tk tk ae ae<|kH tk tk ae ae<|lQ tk ae ae<|lQ (l:=C.set c _) tk ae fC<|hY _ _ _ ae ⟨ET C c _,c+1,rfl,rfl,ae,ae,rfl,hC.trans (.sw ae ae ae ae ae),fun x=>?_⟩;rw[pN ae ae];grind
    ·replace h:¬(c:Int)<(p:Int)-1:=oF h;have hc:c=p-1:=by omega
     subst hc;refine ax (x:=()) rfl ⟨C,rfl,hC,fun i j g1 g2 g3=>?_⟩ ar bE;rw[hg i,hg j];by_cases e1:i<p-1
     ·rw[if_pos ⟨g1,e1⟩];by_cases e2:j<p-1;·rw[if_pos ⟨ae,e2⟩];exact h2 _ _ ae ae ae
      grind
     ·rw[if_neg ae,if_neg (show¬(a≤j∧j<p-1) by omega),if_neg (show¬j=p-1 by omega)];by_cases e3:i=p-1;·grind
      ·rw[if_neg e3];exact h2 i j ae g2 g3
theorem Ac(s:av)(l:List da)(a m:Nat)(ham:a+1<m)(hb:m+1≤l.length)(hl:l.length<2^40)(h1:jx a m l):Gl.Spec ρ Zp 316 [.slice s.a s.n s.c,i64 a,i64 m,i64 (m+1:Nat),AM] [aw s 6 (l.flatMap rc)] (.many []) (rI s l a (m+1)):=by
 refine So (F.aL.dC.calls s a m _ _) fun R=>ak (by rw[bG];simp;omega)<|bg (by rw[bG];simp;omega)<|aM (fun f u M=>(fun(i j:Int)=>∃p q:Nat,i=p∧j=q∧M=aw s 6 (l.flatMap rc)::R∧a≤p∧p≤q∧q≤m∧f=q-p∧(∀k,a≤k→k<p→bQ (l.getD k d6)≤bQ (l.getD m d6))∧∀k,q≤k→k<m→bQ (l.getD m d6)<bQ (l.getD k d6)) u.1 u.2.1) (m-a) ?_ ?_;·exact⟨a,m,rfl,rfl,rfl,ae,ae,ae,rfl,fun k g1 g2=>by omega,fun k g1 g2=>by omega⟩
 ·rintro f ⟨(i:Int),(j:Int),⟨⟩⟩ M ⟨p,q,hi,hj,rfl,p1,p2,p3,rfl,hlo,hhi⟩ X hX;subst hi hj;refine ag (fun h=>?_) (fun h=>?_)
  ·replace h:(p:Int)<q:=oT h;rw[half (x:=p) (y:=q) (n:=p+q) ae ae];refine bm bd (aA ?_);refine l7 tk ae ae<|l7 tk ae ae ?_;simp only[Int.toNat_natCast];refine wS fun r hr=>?_;rw[bG (n:=(((p+q)/2:Nat):Int)+1)];refine ag (fun h3=>?_) (fun h3=>?_)
   ·have h3:¬r<0:=by simpa using h3
    refine hX _ _ _ ae ⟨(p+q)/2+1,q,bq,rfl,rfl,ae,ae,p3,rfl,fun k g1 g2=>?_,hhi⟩;by_cases hk:k=(p+q)/2;·rw[hk];omega
    ·exact Int.le_trans (h1 k ((p+q)/2) g1 ae ae) ae
   ·have h3:r<0:=by simpa using h3
    rw[hr]at h3;refine hX _ _ _ ae ⟨p,_/2,rfl,rfl,rfl,p1,ae,ae,rfl,hlo,fun k g1 g2=>?_⟩;by_cases hk:k=(p+q)/2;·rw[hk];exact h3
    ·exact Int.lt_of_lt_of_le h3 (h1 _ k ae ae g2)
  ·replace h:¬(p:Int)<q:=oF h;refine aM (fun f u M=>(fun(k:Int)=>∃(C:List da) (c:Nat),k=c∧M=aw s 6 (C.flatMap rc)::R∧p≤c∧c≤m∧f=c∧fg a (m+1) l C∧∀x,C.getD x d6=if c<x∧x≤m then l.getD (x-1) d6 else if x=c then l.getD m d6 else l.getD x d6) u.1) m ?_ ?_;·refine⟨l,m,rfl,rfl,ae,ae,rfl,.refl,fun x=>?_⟩;grind
   ·rintro f ⟨(k:Int),⟨⟩⟩ M ⟨C,c,hk,rfl,c1,c2,hf,hC,hg⟩ Y hY;subst hk;have hlC:=hC.len;refine ag (fun h=>?_) (fun h=>?_);·replace h:(c:Int)>(p:Int):=oT h;rw[bG (n:=(c:Int)-1),show(c:Int)-1=((c-1:Nat):Int) by omega];refine aA (aK [aw s 6 _] ar ?_);refine kH tk tk ae ae<|kH tk tk ae ae<|lQ tk ae ae<|lQ (l:=C.set c _) tk ae fC ?_;simp only[Int.toNat_natCast];refine hY (c-1) _ _ (by omega) ⟨ET C c (c-1),c-1,rfl,rfl,by omega,by omega,rfl,hC.trans (.sw (by omega) (by omega) (by omega) (by omega) (by omega)),fun x=>?_⟩;rw[pN (by omega) (by omega)];grind
    ·replace h:¬(c:Int)>(p:Int):=oF h;have hc:c=p:=by omega
     subst hc;refine ax (x:=()) rfl ⟨C,rfl,hC,fun i j g1 g2 g3=>?_⟩ ar bE;rw[hg i,hg j];by_cases e1:j≤c
     ·rw[if_neg (show¬(c<j∧j≤m) by omega),if_neg (show¬(c<i∧i≤m) by omega),if_neg (show¬i=c by omega)];by_cases e2:j=c;·grind
      ·rw[if_neg e2];exact h1 i j g1 g2 ae
     ·rw[if_pos (show c<j∧j≤m by omega)];by_cases e2:i≤c;·grind
      ·rw[if_pos (show c<i∧i≤m by omega)];exact h1 _ _ ae ae ae
structure Bp(l l1:List da)(a t d e b:Nat):Prop where
 same:fg a b l l1
 s1:jx a t l1
 s2:jx t d l1
 s3:jx d e l1
 s4:jx e b l1
 LI:∀x y,a≤x→x<d→d≤y→y<b→bQ (l1.getD x d6)≤bQ (l1.getD y d6)
theorem Ko{l l1:List da}{a t m e d b:Nat}(g1:a≤t)(g2:t≤m)(g3:m≤e)(g4:e≤b)(gd:d=t+(e-m))(h1:jx a m l)(h2:jx m b l)
  (D1:∀x y,a≤x→x<t→e≤y→y<b→bQ (l.getD x d6)≤bQ (l.getD y d6)) (D2:∀x y,m≤x→x<e→t≤y→y<m→bQ (l.getD x d6)≤bQ (l.getD y d6))
  (hl:l1.length=l.length) (hp:l1.Perm l) (hg:∀k,l1.getD k d6=pR l t m e k):Bp l l1 a t d e b:=by
 have r1:∀k,k<t→l1.getD k d6=l.getD k d6:=fun k hk=>by rw[hg];unfold pR;grind
 have r2:∀k,t≤k→k<d→l1.getD k d6=l.getD _ d6:=fun k h3 h4=>by rw[hg];unfold pR;rw[if_pos ae]
 have r3:∀k,d≤k→k<e→l1.getD k d6=l.getD (k-(e-m)) d6:=fun k h3 h4=>by rw[hg];unfold pR;grind
 have r4:∀k,e≤k→l1.getD k d6=l.getD k d6:=fun k h3=>by rw[hg];unfold pR;rw[if_neg ae,if_neg ae]
 refine⟨fg.HD g1 g2 g3 g4 hl hp hg,fun i j h3 h4 h5=>?_,fun i j h3 h4 h5=>?_,fun i j h3 h4 h5=>?_,fun i j h3 h4 h5=>?_,fun x y h3 h4 h5 h6=>?_⟩;·rw[r1 i ae,r1 j h5];exact h1 i j h3 h4 ae
 ·rw[r2 i h3 ae,r2 j ae h5];exact h2 _ _ ae ae ae
 ·rw[r3 i h3 ae,r3 j ae h5];exact h1 _ _ ae ae ae
 ·rw[r4 i h3,r4 j ae];exact h2 i j ae h4 h5
 ·by_cases hx:x<t
  ·rw[r1 x hx];by_cases hy:y<e;·rw[r3 y h5 hy];exact h1 _ _ h3 ae ae
   grind
  ·rw[r2 x ae h4];by_cases hy:y<e;·rw[r3 y h5 hy];exact D2 _ _ ae ae ae ae
   ·rw[r4 y ae];exact h2 _ _ ae ae h6
theorem vi:∀(n:Nat) (s:av) (l:List da) (a m b:Nat) (_:a<m) (_:m<b) (_:b≤l.length) (_:l.length<2^40) (_:b-a=n) (_:jx a m l) (_:jx m b l),
  Gl.Spec ρ Zp 316 [.slice s.a s.n s.c,i64 a,i64 m,i64 b,AM] [aw s 6 (l.flatMap rc)] (.many []) (rI s l a b):=by
 intro n;induction n using Nat.strongRecOn with
 |_ n ih=>
 intro s l a m b ham hmb hb hl hn h1 h2;by_cases c1:m=a+1;·subst c1;exact zw s l a b hmb hb hl h2
 by_cases c2:b=m+1;·subst c2;exact Ac s l a m ae hb hl h1
 refine So (F.aL.dC.calls s a m b _) fun R=>ak (by rw[bG];simp;omega)<|ak (by rw[bG];simp;omega)<|bm bd ?_;rw[half (x:=a) (y:=b) (n:=a+b) ae ae];obtain⟨d,hd⟩:∃d,d=(a+b)/2:=⟨_,rfl⟩;rw[←hd,wrap64 (n:=(d:Int)+m) ae ae,show(d:Int)+m=((d+m:Nat):Int) by omega,wrap64 (n:=((d+m:Nat):Int)-1) ae ae,wrap64 (n:=((d+m:Nat):Int)-b) ae ae];refine iV (fun u M=>∃lo hi:Nat,u.1=lo∧u.2.1=hi∧M=aw s 6 (l.flatMap rc)::R∧((d<m∧lo=d+m-b∧hi=d)∨(m≤d∧lo=a∧hi=m))) ?_ ?_
 ·rintro⟨(u:Int),(v:Int),⟨⟩⟩ M ⟨lo,hi,hu,hv,rfl,hcase⟩;subst hu hv;have hbnd:∀c,lo≤c→c<hi→m≤d+m-1-c∧d+m-1-c<b∧c<m:=fun c h3 h4=>by omega
  refine aM (fun f u M=>(fun(i j:Int)=>∃p q:Nat,i=p∧j=q∧M=aw s 6 (l.flatMap rc)::R∧lo≤p∧p≤q∧q≤hi∧f=q-p∧(∀c,lo≤c→c<p→bQ (l.getD c d6)≤bQ (l.getD (d+m-1-c) d6))∧∀c,q≤c→c<hi→bQ (l.getD (d+m-1-c) d6)<bQ (l.getD c d6)) u.1 u.2.1) (hi-lo) ?_ ?_;·exact⟨lo,hi,rfl,rfl,rfl,ae,ae,ae,rfl,fun c g1 g2=>by omega,fun c g1 g2=>by omega⟩
  ·rintro f ⟨(i:Int),(j:Int),⟨⟩⟩ M ⟨p,q,hi',hj',rfl,p1,p2,p3,rfl,hL,hH⟩ X hX;subst hi' hj';refine ag (fun h=>?_) (fun h=>?_)
   ·replace h:(p:Int)<q:=oT h;rw[half (x:=p) (y:=q) (n:=p+q) ae ae];obtain⟨c,hc⟩:∃c,c=(p+q)/2:=⟨_,rfl⟩;rw[←hc];rw[bG (n:=((d+m:Nat):Int)-1-c),show((d+m:Nat):Int)-1-c=((d+m-1-c:Nat):Int) by omega];refine bm bd (aA ?_);refine l7 tk ae ae<|l7 tk ae ae ?_;simp only[Int.toNat_natCast];refine wS fun r hr=>?_;rw[bG (n:=(c:Int)+1)];refine ag (fun h3=>?_) (fun h3=>?_)
    ·have h3:¬r<0:=by simpa using h3
     refine hX _ _ _ ae ⟨c+1,q,bq,rfl,rfl,ae,ae,p3,rfl,fun c' g1 g2=>?_,hH⟩;by_cases hk:c'=c;·rw[hk];omega
     ·have i1:=h1 c' c ae ae ae;have i2:=h2 (d+m-1-c) _ ae ae (hbnd c' ae ae).2.1;omega
    ·have h3:r<0:=by simpa using h3
     rw[hr]at h3;refine hX _ _ _ ae ⟨p,c,rfl,rfl,rfl,p1,ae,ae,rfl,hL,fun c' g1 g2=>?_⟩;by_cases hk:c'=c;·rw[hk];exact h3
     ·have i1:=h1 c c' ae ae ae;have i2:=h2 _ (d+m-1-c) (hbnd c' ae ae).1 ae ae;omega
   ·replace h:¬(p:Int)<q:=oF h;obtain⟨e,he⟩:∃e,e=d+m-p:=⟨_,rfl⟩;rw[bG (n:=((d+m:Nat):Int)-p),show((d+m:Nat):Int)-p=(e:Int) by omega];have D1:∀x y,a≤x→x<p→e≤y→y<b→bQ (l.getD x d6)≤bQ (l.getD y d6):=fun x y x0 x1 y0 y1=>by
     have i0:=hL (p-1) ae ae;rw[show d+m-1-(p-1)=e by omega]at i0;have i1:bQ (l.getD x d6)≤bQ (l.getD (p-1) d6):=by
      by_cases hx:x=p-1;·grind
      ·exact h1 x _ x0 ae ae
     have i2:bQ (l.getD e d6)≤bQ (l.getD y d6):=by
      by_cases hy:y=e;·grind
      ·exact h2 e y ae ae y1
     omega
    have D2:∀x y,m≤x→x<e→p≤y→y<m→bQ (l.getD x d6)≤bQ (l.getD y d6):=fun x y x0 x1 y0 y1=>by
     have hph:p<hi:=by omega
     have i0:=hH p ae hph;rw[show d+m-1-p=e-1 by omega]at i0;have i1:bQ (l.getD x d6)≤bQ (l.getD (e-1) d6):=by
      by_cases hx:x=e-1;·grind
      ·exact h2 x _ x0 ae ae
     have i2:bQ (l.getD p d6)≤bQ (l.getD y d6):=by
      by_cases hy:y=p;·grind
      ·exact h1 p y ae ae y1
     omega
    have hgo:∀l1:List da,l1.length=l.length→l1.Perm l→_→Bp l l1 a p d e b:=fun l1=>Ko ae ae ae ae ae h1 h2 D1 D2;clear D1 D2 hL hH hbnd;refine iV (fun _ M=>∃l1,M=aw s 6 (l1.flatMap rc)::R∧Bp l l1 a p d e b) ?_ ?_
    ·rintro _ M ⟨l1,rfl,H⟩;have hl1:=H.same.len;refine iV (fun _ M=>∃l2,M=aw s 6 (l2.flatMap rc)::R∧fg a d l1 l2∧jx a d l2) ?_ ?_
     ·rintro _ M ⟨l2,rfl,S2,O2⟩;have hl2:=S2.len;have fin:∀l3,fg d b l2 l3→jx d b l3→Tr ρ ρ (aw s 6 (l3.flatMap rc)::R) (ret (.tuple #[])) (SP (.many []) (rI s l a b) R):=fun l3 S3 O3=>by
       refine ax (x:=()) rfl ⟨l3,rfl,(H.same.trans (S2.mono (Nat.le_refl _) ae)).trans (S3.mono ae (Nat.le_refl _)),fun i j g1 g2 g3=>?_⟩ ar bE;by_cases e1:j<d;·rw[S3.out i ae,S3.out j ae];exact O2 i j g1 g2 e1
       ·by_cases e2:i<d;·rw[S3.out i ae];obtain⟨i',i0,i1,ie⟩:=S2.Lx i g1 e2;obtain⟨j',j0,j1,je⟩:=S3.Lx j ae g3;rw[ie,je,S2.out j' ae];exact H.LI _ _ i0 i1 j0 j1
        ·exact O3 i j ae g2 g3
      have kT:(e=d∨e=b)→jx d b l2:=fun hc i j g1 g2 g3=>by
       rw[S2.out i ae,S2.out j ae];rcases hc with hc|hc;·exact H.s4 i j ae g2 g3
       ·exact H.s3 i j g1 g2 ae
      refine ag (fun g=>?_) (fun g=>fin l2 .refl (kT (.inl eV)));replace g:(d:Int)<e:=oT g;refine ag (fun g'=>?_) (fun g'=>fin l2 .refl (kT (.inr eV)));replace g':(e:Int)<b:=oT g';apply ai (ih _ ae s l2 d e b ae ae ae ae rfl (fun i j k1 k2 k3=>by rw[S2.out i ae,S2.out j ae];exact H.s3 i j k1 k2 k3) (fun i j k1 k2 k3=>by rw[S2.out i ae,S2.out j ae];exact H.s4 i j k1 k2 k3)) ar;rintro x' M ⟨l3,rfl,S3,O3⟩;exact fin _ S3 O3
     ·intro J hJ;have kT:(p=a∨p=d)→jx a d l1:=fun hc i j g1 g2 g3=>by
       rcases hc with hc|hc;·exact H.s2 i j ae g2 g3
       ·exact H.s1 i j g1 g2 ae
      refine ag (fun g=>?_) (fun g=>hJ _ _ ⟨l1,rfl,.refl,kT (.inl eV)⟩);replace g:(a:Int)<p:=oT g;refine ag (fun g'=>?_) (fun g'=>hJ _ _ ⟨l1,rfl,.refl,kT (.inr eV)⟩);replace g':(p:Int)<d:=oT g';apply ai (ih _ ae s _ a p d ae ae ae ae rfl H.s1 H.s2) ar;rintro x' M ⟨l2,rfl,S2,O2⟩;exact hJ _ _ ⟨l2,rfl,S2,O2⟩
    ·intro J hJ;have stay:(p=m∨e=m)→∀k,l.getD k d6=pR l p m e k:=fun hc k=>by unfold pR;grind
     refine ag (fun g=>?_) (fun g=>hJ _ _ ⟨l,rfl,hgo l rfl (.refl _) (stay (.inl eV))⟩);replace g:(p:Int)<m:=oT g;refine ag (fun g'=>?_) (fun g'=>hJ _ _ ⟨l,rfl,hgo l rfl (.refl _) (stay (.inr eV))⟩);replace g':(m:Int)<e:=oT g';apply ai (yy s l p m e _ ae ae ae ae) ar;rintro x' M ⟨l1,rfl,q1,q2,q3⟩;exact hJ _ _ ⟨l1,rfl,hgo _ q1 q2 q3⟩
 ·intro J hJ;refine ag (fun h=>?_) (fun h=>?_);·grind
  ·grind
theorem qp{w x a:Nat}(hx:w∣x)(ha:w∣a)(h:x<a):x+w≤a:=by obtain⟨k,rfl⟩:=hx;obtain⟨j,rfl⟩:=ha;have hkj:=Nat.lt_of_mul_lt_mul_left h;have:=Nat.mul_le_mul_left w (show k+1≤j by omega);omega
theorem fg.JT{a b x y:Nat}{l l':List da}(h:fg a b l l')(hs:jx x y l)(hd:y≤a∨b≤x):jx x y l':=fun i j h1 h2 h3=>by rw[h.out i ae,h.out j ae];exact hs i j h1 h2 h3
theorem zA(s:av)(l:List da)(n:Nat)(hn:n=l.length)(hl:l.length<2^40):Gl.Spec ρ Zp 293 [.slice s.a s.n s.c,i64 n,AM] [aw s 6 (l.flatMap rc)] (.many []) (rI s l 0 n):=by
 refine So (F.aL.iz.calls s n _) fun R=>aM (fun f u M=>(fun(i j:Int)=>∃(C:List da) (a:Nat),i=a∧j=(a+20:Nat)∧M=aw s 6 (C.flatMap rc)::R∧a≤n∧f=n-a∧20∣a∧fg 0 n l C∧∀x,20∣x→x<a→jx x (x+20) C) u.1 u.2.1) n ?_ ?_;·exact⟨l,0,rfl,rfl,rfl,ae,rfl,ae,.refl,fun x _ hx=>by omega⟩
 ·rintro f ⟨(i:Int),(j:Int),⟨⟩⟩ M ⟨C,a,hi,hj,rfl,a1,rfl,ha,hS,hB⟩ X hX;subst hi hj;have hlC:=hS.len;refine ag (fun h=>?_) (fun h=>?_)
  ·replace h:((a+20:Nat):Int)≤n:=oT h;apply ai (su s C a _ ae ae ae) ar;rintro x' M ⟨D,rfl,S2,O2⟩;rw[bG (n:=((a+20:Nat):Int)+20)];refine hX _ _ _ ae ⟨D,a+20,rfl,bq,rfl,ae,rfl,ae,hS.trans (S2.mono ae ae),fun x hx hlt=>?_⟩;by_cases hxa:x=a;·rw[hxa];exact O2
   ·exact S2.JT (hB x hx ae) (.inl ae)
  ·replace h:¬((a+20:Nat):Int)≤n:=oF h;apply ai (su s C a n ae ae ae) ar;rintro x' M ⟨D,rfl,S2,O2⟩;try simp only[c8,c9]
   have hS2:=hS.trans (S2.mono (Nat.zero_le _) (Nat.le_refl _));have hB2:∀x,20∣x→jx x (min (x+20) n) D:=fun x hx=>by
    rcases Nat.lt_trichotomy x a with c|c|c;·rw[Nat.min_eq_left ae];exact S2.JT (hB x hx c) (.inl ae)
    ·grind
    ·intro i j g1 g2 g3;omega
   refine aM (fun f u M=>(fun(i:Int)=>∃(C:List da) (bs:Nat),i=bs∧M=aw s 6 (C.flatMap rc)::R∧1≤bs∧bs≤2^41∧f=2^42-bs∧fg 0 n l C∧∀x,bs∣x→jx x (min (x+bs) n) C) u.1) (2^42-20) ?_ ?_;·grind
   ·rintro f ⟨(i:Int),⟨⟩⟩ M ⟨C,bs,hi,rfl,b1,b2,rfl,hS,hB⟩ X hX;subst hi;refine ag (fun h=>?_) (fun h=>?_)
    ·replace h:(bs:Int)<n:=oT h;rw[wrap64 (n:=2*(bs:Int)) ae ae,wrap64 (n:=(bs:Int)*2) ae ae];refine aM (fun f u M=>(fun(i j:Int)=>∃(C:List da) (a:Nat),i=a∧j=(a+2*bs:Nat)∧M=aw s 6 (C.flatMap rc)::R∧a≤n∧f=n-a∧2*bs∣a∧fg 0 n l C∧(∀x,2*bs∣x→x<a→jx x (x+2*bs) C)∧∀x,bs∣x→a≤x→jx x (min (x+bs) n) C) u.1 u.2.1) n ?_ ?_;·exact⟨C,0,rfl,bq,rfl,ae,rfl,Nat.dvd_zero _,hS,fun x _ hx=>by omega,fun x hx _=>hB x hx⟩
     ·rintro f ⟨(i:Int),(j:Int),⟨⟩⟩ M ⟨C,a,hi,hj,rfl,a1,rfl,ha,hS,hB,hB'⟩ Y hY;subst hi hj;have hlC:=hS.len;have hba:=Nat.dvd_trans (Nat.dvd_mul_left bs 2) ha;have hba2:=(Nat.dvd_add_iff_right hba).mp (Nat.dvd_refl _);rw[bG (n:=(a:Int)+bs),show(a:Int)+bs=((a+bs:Nat):Int) by omega];refine ag (fun h2=>?_) (fun h2=>?_)
      ·replace h2:((a+2*bs:Nat):Int)≤n:=oT h2;have o1:=hB' a hba (Nat.le_refl _);have o2:=hB' _ hba2 ae;rw[Nat.min_eq_left ae]at o1 o2;rw[show a+bs+bs=a+2*bs by omega]at o2;apply ai (vi _ s C a _ _ ae ae ae ae rfl o1 o2) ar;rintro x' M ⟨D,rfl,S2,O2⟩;rw[bG (n:=((a+2*bs:Nat):Int)+2*bs)];refine hY _ _ _ ae ⟨D,a+2*bs,rfl,bq,rfl,ae,rfl,(Nat.dvd_add_iff_right ha).mp (Nat.dvd_refl _),hS.trans (S2.mono ae ae),fun x hx hlt=>?_,fun x hx hle=>S2.JT (hB' x hx ae) (.inr hle)⟩;rcases Nat.lt_trichotomy x a with c|c|c;·exact S2.JT (hB x hx c) (.inl (qp hx ha c))
       ·rw[c];exact O2
       ·have:=qp ha hx c;omega
      ·replace h2:¬((a+2*bs:Nat):Int)≤n:=oF h2;have out:∀D:List da,fg a n C D→jx a n D→Tr ρ ρ (aw s 6 (D.flatMap rc)::R) (X ((bs:Int)*2,())) (SP (.many []) (rI s l 0 n) R):=fun D S2 O2=>by
        refine hX _ _ _ ae ⟨D,bs*2,bq,rfl,ae,ae,rfl,hS.trans (S2.mono (Nat.zero_le _) (Nat.le_refl _)),fun x hx=>?_⟩;rw[Nat.mul_comm]at hx;rcases Nat.lt_trichotomy x a with c|c|c;·have:=qp hx ha c;rw[Nat.min_eq_left ae,Nat.mul_comm];exact S2.JT (hB x hx c) (.inl this)
        ·grind
        ·have:=qp ha hx c;intro i j g1 g2 g3;omega
       have o1:=hB' a hba (Nat.le_refl _);refine ag (fun h3=>?_) (fun h3=>?_);·replace h3:((a+bs:Nat):Int)<n:=oT h3;have o2:=hB' _ hba2 ae;rw[Nat.min_eq_left ae]at o1;rw[Nat.min_eq_right ae]at o2;apply ai (vi _ s C a _ n ae ae ae ae rfl o1 o2) ar;rintro x' M ⟨D,rfl,S2,O2⟩;exact out D S2 O2
       ·replace h3:¬((a+bs:Nat):Int)<n:=oF h3;rw[Nat.min_eq_right ae]at o1;exact out C .refl o1
    ·replace h:¬(bs:Int)<n:=oF h;have o:=hB 0 (Nat.dvd_zero _);rw[Nat.zero_add,Nat.min_eq_right ae]at o;exact rT ⟨C,rfl,hS,o⟩
theorem Aa(s:av)(l:List da)(hl:l.length<2^40):Gl.Spec ρ Zp 249 [.slice s.a s.n s.c,AM] [aw s 6 (l.flatMap rc)] (.many []) fun _ M=>∃l':List da,M=[aw s 6 (l'.flatMap rc)]∧l'.Perm l∧jx 0 l.length l':=by refine So (F.aL.kN.calls s _) fun R=>u1 tk fun hn=>ai (zA s l _ hn hl) ar ?_;rintro x' M ⟨l',rfl,hS,hO⟩;rw[hn]at hO;exact rT ⟨l',rfl,hS.perm,hO⟩
theorem CW{n:Int}(h0:0≤n):IntKind.wrap .u64 n=n%18446744073709551616:=by rfl
theorem tG{x:Int}(h0:0≤x)(h1:x<18446744073709551616):jk .and .u64 x 4294967295=x%4294967296:=by
 obtain⟨n,rfl⟩:=Int.eq_ofNat_of_zero_le h0;unfold jk;dsimp only;have e:(BitVec.ofInt (IntKind.bits .u64) (n:Int)&&& BitVec.ofInt (IntKind.bits .u64) 4294967295).toNat=n%4294967296:=by
  rw[BitVec.toNat_and,BitVec.toNat_ofInt,BitVec.toNat_ofInt];have a1:((n:Int)%((2^IntKind.bits .u64:Nat):Int)).toNat=n:=by
   have:((2^IntKind.bits .u64:Nat):Int)=18446744073709551616:=by decide
   rw[this];omega
  have a2:(4294967295%((2^IntKind.bits .u64:Nat):Int)).toNat=2^32-1:=by decide
  rw[a1,a2,Nat.and_two_pow_sub_one_eq_mod]
 rw[e,jq ae ae];omega
theorem ti{a b:Int}(a0:0≤a)(a1:a≤4294967295)(b0:0≤b)(b1:b≤4294967295):0≤a*b∧a*b≤18446744065119617025:=
 ⟨Int.mul_nonneg a0 b0,Int.le_trans (Int.mul_le_mul a1 b1 b0 (by omega)) (by decide)⟩
abbrev U2:RK:= .many [.l (.int .u64),.l (.int .u64)]
theorem F4(x y:Int)(x0:0≤x)(x1:x<9223372036854775808)(y0:0≤y)(y1:y<9223372036854775808):Gl.Spec ρ Zp 327 [.int .u64 x,.int .u64 y] [] U2
  fun r M=>r=(x*y/18446744073709551616,x*y%18446744073709551616,())∧M=[]:=by
 refine So (F.bits.Gu.calls x y) fun R=>bm bd (bm bd (bm bd (bm bd (bm bd ?_))));have e:(2^(min (32:Int).toNat (IntKind.bits .u64)):Int)=4294967296:=by decide
 have fd:∀a:Int,Int.fdiv a (2^(min (32:Int).toNat (IntKind.bits .u64)))=a/4294967296:=fun a=>by grind
 simp only[fd];rw[tG x0 ae,tG y0 ae,CW (Int.mul_nonneg x0 y0)];obtain⟨xh,hxh⟩:∃z,z=x/4294967296:=⟨_,rfl⟩;obtain⟨xl,hxl⟩:∃z,z=x%4294967296:=⟨_,rfl⟩;obtain⟨yh,hyh⟩:∃z,z=y/4294967296:=⟨_,rfl⟩;obtain⟨yl,hyl⟩:∃z,z=y%4294967296:=⟨_,rfl⟩;rw[←hxh,←hxl,←hyh,←hyl];have b1:=ti (a:=xh) (b:=yh) ae ae ae ae;have b2:=ti (a:=xh) (b:=yl) ae ae ae ae;have b3:=ti (a:=xl) (b:=yh) ae ae ae ae;have b4:=ti (a:=xl) (b:=yl) ae ae ae ae;have hxy:x*y=xh*yh*18446744073709551616+(xh*yl+xl*yh)*4294967296+xl*yl:=by grind
 have hpos:=Int.mul_nonneg x0 y0;have hlt:x*y<18446744073709551616*9223372036854775808:=by have:=Int.mul_le_mul (show x≤9223372036854775808 by omega) (show y≤9223372036854775808 by omega) y0 ae;omega
 rw[hxy]at hpos hlt⊢;generalize xh*yh=a at*;generalize xh*yl=b at*;generalize xl*yh=c at*;generalize xl*yl=d at*;refine ax (x:=((a*18446744073709551616+(b+c)*4294967296+d)/18446744073709551616,(a*18446744073709551616+(b+c)*4294967296+d)%18446744073709551616,())) ?_ ⟨rfl,rfl⟩ ar bE;rw[jq (n:=d) ae ae,jq (n:=b) ae ae,jq (n:=a) ae ae,jq (n:=c) ae ae,jq (n:=b+d/4294967296) ae ae,tG (x:=b+d/4294967296) ae ae];rw[jq (n:=(b+d/4294967296)%4294967296+c) ae ae,jq (n:=a+(b+d/4294967296)/4294967296) ae ae,jq ae ae];have e2:a+(b+d/4294967296)/4294967296+((b+d/4294967296)%4294967296+c)/4294967296=(a*18446744073709551616+(b+c)*4294967296+d)/18446744073709551616:=by omega
 rw[e2];rfl
def Sf.none(n:Int):Int:=if n>0 then n else 0
def Sf.idle(c s:Int):Int:=Sf.none (Sf.none c-Sf.none s)
def Sf.ym(f r:Int):Int:=if Sf.none f*Sf.none r>9223372036854775807 then 9223372036854775807 else Sf.none f*Sf.none r
def Sf.kT(c s f r:Int):Bool:=decide (Sf.idle c s≤Sf.ym f r)
theorem jZ(n:Int):Gl.Spec ρ Zp 274 [i64 n] [] R1 fun r M=>r=Sf.none n∧M=[]:=by exact So (F.soft.none.calls n) fun R=>rT
theorem iK{n:Int}(h:n<9223372036854775808):0≤Sf.none n∧Sf.none n<9223372036854775808:=by unfold Sf.none;split<;>omega
theorem DJ(c s:Int)(hc:c<9223372036854775808)(hs:s<9223372036854775808):Gl.Spec ρ Zp 317 [i64 c,i64 s] [] R1 fun r M=>r=Sf.idle c s∧M=[]:=by refine So (F.soft.Idle.calls c s) fun R=>?_;have h1:=iK hc;have h2:=iK hs;refine cE (jZ c)<|cE (jZ s) ?_;rw[bG];exact cE (jZ _)<|rT
theorem AL(f r:Int)(hf:f<9223372036854775808)(hr:r<9223372036854775808):Gl.Spec ρ Zp 318 [i64 f,i64 r] [] R1 fun x M=>x=Sf.ym f r∧M=[]:=by
 refine So (F.soft.sd.calls f r) fun R=>?_;have h1:=iK hf;have h2:=iK hr;refine cE (jZ f)<|cE (jZ r) ?_;unfold Sf.ym;generalize Sf.none f=x at*;generalize Sf.none r=y at*;rw[jq (n:=x) ae ae,jq (n:=y) ae ae];apply cE (F4 x y h1.1 h1.2 h2.1 h2.2);try simp only[c8,c9]
 have hp:=Int.mul_nonneg h1.1 h2.1;generalize x*y=z at*;refine ag (fun h=>?_) (fun h=>?_);·replace h:z/18446744073709551616>0:=oT h;rw[if_pos ae];exact rT
 ·replace h:¬z/18446744073709551616>0:=oF h;refine ag (fun h3=>?_) (fun h3=>?_);·replace h3:z%18446744073709551616>9223372036854775807:=oT h3;rw[if_pos ae];exact rT
  ·replace h3:¬z%18446744073709551616>9223372036854775807:=oF h3;rw[if_neg ae,show z%18446744073709551616=z by omega,bG];exact rT
theorem C7(c s f r:Int)(hc:c<9223372036854775808)(hs:s<9223372036854775808)(hf:f<9223372036854775808)(hr:r<9223372036854775808):Gl.Spec ρ Zp 298 [i64 c,i64 s,i64 f,i64 r] [] RB fun x M=>x=Sf.kT c s f r∧M=[]:=by exact So (F.soft.Bn.calls c s f r) fun R=>cE (DJ c s hc hs)<|cE (AL f r hf hr)<|rT
theorem Gy(c s:Int)(hc:c<9223372036854775808)(hs:s<9223372036854775808):Gl.Spec ρ Zp 279 [i64 c,i64 s] [] R1 fun r M=>r=Sf.idle c s∧M=[]:=by refine So (F.aa.Idle.calls c s) fun R=>?_;unfold F.aa.Idle;have e:IntKind.wrap .i64 ((if c>0 then c else 0)-(if s>0 then s else 0))=Sf.none c-Sf.none s:=bG;rw[e];exact rT
theorem DL(f r:Int)(hf:f<9223372036854775808)(hr:r<9223372036854775808):Gl.Spec ρ Zp 280 [i64 f,i64 r] [] R1 fun x M=>x=Sf.ym f r∧M=[]:=by
 refine So (F.aa.sd.calls f r) fun R=>?_;unfold F.aa.sd;have h1:=iK hf;have h2:=iK hr;unfold Sf.ym;rw[show(if f>0 then f else 0)=Sf.none f from rfl,show(if r>0 then r else 0)=Sf.none r from rfl];generalize Sf.none f=x at*;generalize Sf.none r=y at*;refine ag (fun h=>?_) (fun h=>?_)
 ·have h:y≠0:=by simpa using h
  apply bm h;rw[Int.tdiv_eq_ediv_of_nonneg ae];have hq:9223372036854775807/y≤9223372036854775807:=Int.ediv_le_self _ ae;have hq0:0≤9223372036854775807/y:=Int.ediv_nonneg ae h2.1;rw[bG (n:=9223372036854775807/y)];have hiff:x≤9223372036854775807/y↔x*y≤9223372036854775807:=Int.le_ediv_iff_mul_le ae;refine ag (fun h3=>?_) (fun h3=>?_);·replace h3:x>9223372036854775807/y:=oT h3;rw[if_pos (by omega)];exact rT
  ·replace h3:¬x>9223372036854775807/y:=oF h3;have hp:=Int.mul_nonneg h1.1 h2.1;rw[if_neg ae,bG (n:=x*y)];exact rT
 ·have h:y=0:=by simpa using h
  subst h;rw[Int.mul_zero,if_neg ae,bG (n:=0)];exact rT
theorem Gm(c s f r:Int)(hc:c<9223372036854775808)(hs:s<9223372036854775808)(hf:f<9223372036854775808)(hr:r<9223372036854775808):Gl.Spec ρ Zp 239 [i64 c,i64 s,i64 f,i64 r] [] RB fun x M=>x=Sf.kT c s f r∧M=[]:=by exact So (F.aa.Bn.calls c s f r) fun R=>cE (Gy c s hc hs)<|cE (DL f r hf hr)<|rT
def Me(g:da→Bool)(l:List da)(r:Int):Prop:=(r= -1∧∀x∈l,g x=false)∨∃k:Nat,r=k∧k<l.length∧g (l.getD k d6)=true
theorem vL(s:av)(l:List da)(hs:fx ρ s 6 (l.flatMap rc))(hl:l.length<2^62){f:FuncId}{fn:Func}{i c:Array Value}{A:List aD}{g:da→Bool}(hf:Tryz.prog.funcs[f]? =some fn)(hb:fn.body.isSome=true)
  (hg:∀x∈l,Gl.Spec ρ Zp f (i.toList++[.agg (rc x).toArray]++c.toList) A RB fun r M=>r=g x∧M=A):
  Gl.Spec ρ Zp 257 [.slice s.a s.n s.c,.func (.func f) i c] A R1 fun r M=>Me g l r∧M=A:=by
 refine So (F.aL.lA.calls s _) fun R=>?_;have hn:s.n=l.length:=by have:=hs.1;rw[ji (g:=rc) (m:=6) iY]at this;omega
 refine aM (fun n u M=>(fun j:Int=>M=A++R∧0≤j∧j≤l.length∧n=l.length-j.toNat∧∀x∈l.take j.toNat,g x=false) u.1) l.length ?_ ?_;·simp
 ·rintro n ⟨(j:Int),⟨⟩⟩ M ⟨rfl,j0,j1,rfl,hno⟩ X hX;refine ag (fun h=>?_) (fun h=>?_)
  ·replace h:j<(s.n:Int):=oT h;have hj:j.toNat<l.length:=by omega
   have hj2:l[j.toNat]? =some (l.getD j.toNat d6):=by grind
   have hin:=List.mem_of_getElem? hj2;refine bz hs j0 h fun a0 ha=>kU (x:=l.getD j.toNat d6) ha hs fX (fun e v he=>?_) ?_;·have hlt:e<6:=(List.getElem?_eq_some_iff.1 he).1;rw[Nat.add_zero,eJ (g:=rc) (m:=6) iY hj2 hlt];exact he
   refine qA hf hb (hg _ hin) (aI.app _ _) ?_;rintro r M ⟨rfl,rfl⟩;refine ag (fun h2=>?_) (fun h2=>?_);·exact ax rfl ⟨.inr ⟨j.toNat,(show j=_ by omega),hj,h2⟩,rfl⟩ (aI.app _ _) .refl
   ·rw[bG (n:=j+1)];refine hX _ _ _ ae ⟨rfl,bq,bq,rfl,fun x hx=>?_⟩;rw[show(j+1).toNat=j.toNat+1 by omega,aE d6 hj]at hx;grind
  ·replace h:¬j<(s.n:Int):=oF h;rw[List.take_of_length_le ae]at hno;exact ax rfl ⟨.inl ⟨rfl,hno⟩,rfl⟩ (aI.app _ _) .refl
structure pS where
 ro:av
 fi:av
 clock:Int
 free:Int
 ba:Int
 all:Bool
 stack:Int
structure pS.Ok(x:pS):Prop where
 c:x.clock<9223372036854775808
 f:x.free<9223372036854775808
 r:x.ba<9223372036854775808
abbrev nk(c t p:Nat)(x:pS)(rf:av):aD:=au c [pA t,pA p,.slice x.ro.a x.ro.n x.ro.c,.slice x.fi.a x.fi.n x.fi.c,.int .i64 x.clock,.int .i64 x.free,.int .i64 x.ba,.bool x.all,.int .i64 x.stack,.slice rf.a rf.n rf.c]
def gU(S:aJ)(m:List Bool)(r:da):Bool:=(Ob.head S r.2.2.1).isSome&& !Sp.has m r.2.2.1
theorem rL(c t p room:Nat)(x:pS)(rf:av)(S:aJ)(cs:List aX)(hw:aY S cs)(q:Mk.St)(r:da):Gl.Spec ρ Zp 259 [pA c,.agg (rc r).toArray] [nk c t p x rf,fI t p room q,aF p S cs] RB
  fun b M=>b=gU S q.m r∧M=[nk c t p x rf,fI t p room q,aF p S cs]:=by
 refine So (F.proc.common.lost.calls _ r) fun R=>?_;obtain⟨r1,r2,r3,r4,r5,r6,⟨⟩⟩:=r;refine aq fun b1=>aA (aK [nk c t p x rf,au _ [.int _ r1,.int _ r2,.int _ r3,.int _ r4,.int _ r5,.int _ r6]] ar ?_);refine af (hP c 1 p ?_);refine jL<|cr ?g1 ?g2;case' g1=>refine cE (du p S _ hw _)<|aq fun b7=>?_;rw[EX]
 case' g2=>refine aq fun b7=>?_;rw[EX];refine cK<|cE (du p S _ hw _) ?_
 all_goals
  unfold gU;cases hh:Ob.head S r3 with
  |none=>refine iT<|aA (ak rfl ?_);exact rT
  |some hd=>refine iT<|aA (bg rfl (af ?_));refine iL<|iL<|cE (oP t p _ q _) ?_;exact rT
def gO(S:aJ)(m:List Bool)(x:pS)(r:da):Bool:=decide (r.2.1=1)&&(!x.all&&(Sp.has m r.1&&(gU S m r&&Sf.kT x.clock r.2.2.2.2.1 x.free x.ba)))
theorem DN(c t p room:Nat)(x:pS)(hx:x.Ok)(rf:av)(S:aJ)(cs:List aX)(hw:aY S cs)(q:Mk.St)(r:da)(hr:r.2.2.2.2.1<9223372036854775808):Gl.Spec ρ Zp 258 [.agg #[pA c],.agg (rc r).toArray] [nk c t p x rf,fI t p room q,aF p S cs] RB
  fun b M=>b=gO S q.m x r∧M=[nk c t p x rf,fI t p room q,aF p S cs]:=by
 refine So (F.proc.gu.kept.calls (oA c,()) r) fun R=>?_;obtain⟨r1,r2,r3,r4,r5,r6,⟨⟩⟩:=r;unfold F.proc.gu.kept gO;refine aq fun b1=>aq fun b2=>aA (aK [nk c t p x rf,au _ [pA c],au _ [.int _ r1,.int _ r2,.int _ r3,.int _ r4,.int _ r5,.int _ r6]] ar ?_);refine jL<|ag (fun h1=>?_) (fun h1=>?_)
 ·have h1:r2=1:=eq_of_beq h1;rw[decide_eq_true h1,Bool.true_and];refine hP _ 0 c (af ?_);refine bo bL tk rfl<|ag (fun h2=>?_) (fun h2=>?_)
  ·rw[h2,Bool.true_and];refine hP _ 0 c (af ?_);refine jL<|jL<|cE (oP t p _ q _) ?_;refine aS ar (kK [nk c t p x rf,au _ [pA c],au _ [.int _ r1,.int _ r2,.int _ r3,.int _ r4,.int _ r5,.int _ r6]] ar (fun w h=>h) ?_);refine ag (fun h3=>?_) (fun h3=>?_)
   ·rw[h3,Bool.true_and];refine jL<|jG<|cE (rL c t p _ x _ S _ hw q _) ?_;refine aS ar (kK [nk c t p x rf,au _ [pA c],au _ [.int _ r1,.int _ r2,.int _ r3,.int _ r4,.int _ r5,.int _ r6]] ar (fun w h=>h) ?_);refine ag (fun h4=>?_) (fun h4=>?_);·rw[h4,Bool.true_and];refine hP _ 0 c (af ?_);refine bo bL tk rfl<|jL<|hP _ 0 c (af ?_);refine bo bL tk rfl<|hP _ 0 c (af ?_);refine bo bL tk rfl<|cE (C7 _ _ _ _ hx.c hr hx.f hx.r) ?_;exact rT
    ·rw[h4];exact rT
   ·rw[h3];exact kK [nk c t p x rf,au _ [pA c],au _ [.int _ r1,.int _ r2,.int _ r3,.int _ r4,.int _ r5,.int _ r6]] ar (fun w h=>h)<|rT
  ·rw[h2];exact kK [nk c t p x rf,au _ [pA c],au _ [.int _ r1,.int _ r2,.int _ r3,.int _ r4,.int _ r5,.int _ r6]] ar (fun w h=>h)<|kK [nk c t p x rf,au _ [pA c],au _ [.int _ r1,.int _ r2,.int _ r3,.int _ r4,.int _ r5,.int _ r6]] ar (fun w h=>h)<|rT
 ·have h1:r2≠1:=by simpa using h1
  rw[decide_eq_false h1];exact kK [nk c t p x rf,au _ [pA c],au _ [.int _ r1,.int _ r2,.int _ r3,.int _ r4,.int _ r5,.int _ r6]] ar (fun w h=>h)<|kK [nk c t p x rf,au _ [pA c],au _ [.int _ r1,.int _ r2,.int _ r3,.int _ r4,.int _ r5,.int _ r6]] ar (fun w h=>h)<|rT
inductive lH (S:aJ) (cs:List aX) (l:List da) (x:pS) (R0:Int→Prop):Int→Prop
 |base {a:Int} (h:R0 a):lH S cs l x R0 a
 |kT {r:da} {a:Int} (hr:r∈l) (h1:r.2.1=1) (h2:x.all=false) (h3:lH S cs l x R0 r.1) (h4:Sf.kT x.clock r.2.2.2.2.1 x.free x.ba=true) (ho:Mk.obj S r.2.2.1) (ha:Mk.pT S cs [r.2.2.1] a):lH S cs l x R0 a
theorem Gj{ρ':FR}(h0:Le ρ0 ρ)(hle:Le ρ ρ')(h:Tr ρ0 ρ L T Post):Tr ρ0 ρ' L T Post:=fun _ w hw=>h h0 w (hw.HC hle)
theorem v8:∀{m m':List Bool},m.length=m'.length→(∀i:Nat,m.getD i false=true→m'.getD i false=true)→m'.count false≤m.count false
 |[],[],_,_=>Nat.le_refl _
 |b::m,b'::m',hl,h=>by have ih:=v8 (by simpa using hl) (fun i hi=>by simpa using h (i+1) (by simpa using hi));have h0:=h 0;grind
theorem ry:∀{m m':List Bool} (j:Nat),m.length=m'.length→(∀i:Nat,m.getD i false=true→m'.getD i false=true)→m.getD j false=false→m'.getD j false=true→m'.count false<m.count false
 |[],[],j,_,_,_,h=>by simp at h
 |b::m,b'::m',0,hl,h,h1,h2=>by have ih:=v8 (by simpa using hl) (fun i hi=>by simpa using h (i+1) (by simpa using hi));grind
 |b::m,b'::m',j+1,hl,h,h1,h2=>by have ih:=ry j (by simpa using hl) (fun i hi=>by simpa using h (i+1) (by simpa using hi)) (by simpa using h1) (by simpa using h2);have h0:=h 0;grind
theorem zW(c t p room:Nat)(hroom:room≤4096)(x:pS)(hx:x.Ok)(rf:av)(l:List da)(hrf:fx ρ rf 6 (l.flatMap rc))(hl:l.length<2^40)(hst:∀r∈l,r.2.2.2.2.1<9223372036854775808)(S:aJ)(cs:List aX)(hw:aY S cs)(q:Mk.St)(H:Mk.Rest S cs room q):
  Gl.Spec ρ Zp 207 [.agg #[pA c]] [nk c t p x rf,fI t p room q,aF p S cs] (.many [])
  fun _ M=>∃q',M=[nk c t p x rf,fI t p room q',aF p S cs]∧Mk.Rest S cs room q'∧∀a,Sp.has q'.m a=true↔lH S cs l x (fun a=>Sp.has q.m a=true) a:=by
 refine So (F.proc.gu.run.calls (oA c,())) fun R=>aq fun b1=>aM (fun m u M=>∃q1,M=au b1 [pA c]::nk c t p x rf::fI t p room q1::aF p S cs::R∧m=q1.m.count false∧Mk.Rest S cs room q1∧(∀a,Sp.has q.m a=true→Sp.has q1.m a=true)∧∀a,Sp.has q1.m a=true→lH S cs l x (fun a=>Sp.has q.m a=true) a) _ ⟨q,rfl,rfl,H,fun _ h=>h,fun _ h=> .base h⟩ ?_;rintro m ⟨⟩ M ⟨q1,rfl,rfl,H1,hup,hsnd⟩ X hX;refine aA<|iL<|af ?_;refine iL<|iG ?_;refine ai (vL rf l hrf (by omega) (i:= #[.agg #[pA c]]) (c:= #[]) (A:=[nk c t p x rf,fI t p room q1,aF p S cs]) (g:=gO S q1.m x) Tryz.func258 (by kernel_rfl) (fun r hr=>by have:=DN (ρ:=ρ) c t p room x hx rf S cs hw q1 r (hst r hr);simpa using this)) ar ?_;rintro r8 M ⟨hidx,rfl⟩;have hlen:=H1.closed.len;rcases hidx with ⟨rfl,hno⟩|⟨k,rfl,hk,hg⟩
 ·refine bT<|ax (x:=()) rfl ⟨q1,rfl,H1,fun a=>⟨hsnd a,fun ha=>?_⟩⟩ ar bE;induction ha with
  |base h=>exact hup _ h
  | @kT r a hr g1 g2 _ g4 go ga ih=>
   have hm:Sp.has q1.m r.2.2.1=true:=by
    cases hm:Sp.has q1.m r.2.2.1 with
    |true=>rfl
    |false=>
     have:gO S q1.m x r=true:=by unfold gO gU;unfold Mk.obj at go;grind
     grind
   exact H1.closed.LQ (fun b hb _=>by grind) ga
 ·have hki:l[k]? =some (l.getD k d6):=by grind
  have hin:=List.mem_of_getElem? hki;generalize hrr:l.getD k d6=r at*;refine bF<|aA (aK [au _ [pA c],nk c t p x rf] ar ?_);refine hP _ 0 c (af ?_);refine jL<|hP _ 0 c (af ?_);refine jL ?_;have hn:rf.n=l.length:=by have:=hrf.1;rw[ji (g:=rc) (m:=6) iY]at this;omega
  refine bz hrf ae ae fun a0 ha=>?_;rw[Int.toNat_natCast];refine zC ha hrf (by rintro b o rfl;rw[aO,aO,Nat.add_assoc]) (by rw[eJ iY hki ae];rfl)<|aq fun b18=>aS ar<|Rd.bk (m:=1) (vs:=([r.2.2.1]:List Int).map _) rfl tk fun ρ1 hle1 ro1=>ai (vR t p _ hroom S _ hw _ H1 ⟨oA b18,1,1⟩ [r.2.2.1] ro1 bu) ar ?_;rintro x' M ⟨q2,rfl,H2,hq2⟩;unfold gO gU at hg;rw[Bool.and_eq_true,Bool.and_eq_true,Bool.and_eq_true,Bool.and_eq_true,Bool.and_eq_true]at hg;obtain⟨g1,g2,g3,⟨g4,g5⟩,g6⟩:=hg;have hold:=fun a h=>(hq2 a).mpr (.inl h);have hcnt:q2.m.count false<q1.m.count false:=by
   obtain⟨k0,k1⟩:=Mk.ke hw g4;have hm2:=(hq2 _).mpr (.inr (.root (List.mem_singleton.mpr rfl) g4));have hl2:=H2.closed.len;refine ry r.2.2.1.toNat ae (fun i hi=>?_) ?_ ?_;·have:=hold i (by unfold Sp.has;grind);unfold Sp.has at this;grind
   ·unfold Sp.has at g5;grind
   ·unfold Sp.has at hm2;grind
  refine Tr.take (A:=nk c t p x _) tk (Tr.take (A:=au _ [pA c]) tk ?_);refine Gj (Le.refl _) hle1 (hX _ _ _ hcnt ⟨q2,rfl,rfl,H2,fun a h=>hold a (hup a h),fun a h=>?_⟩);rcases(hq2 a).mp h with h|h;·exact hsnd a h
  ·exact .kT hin (oT g1) (by simpa using g2) (hsnd _ g3) g6 g4 h
def eM(o:pX):Option da:=if o.h.k=4 then some (o.a,o.h.c,o.ws.getD 0 0,o.ws.getD 1 0,o.ws.getD 3 0,o.ws.getD 4 0,())else none
def refsOf(S:aJ):List da:=(Ob.eR S).filterMap eM
theorem Ll:pY Zp #[274,274] 6 48=true:=by kernel_rfl
theorem wU{S:aJ}{cs:List aX}(hw:aY S cs):∀o∈Ob.eR S,o.h.k=4→o.ws.length=5:=fun o ho hk=>by
 obtain⟨a,_,rfl⟩:=List.mem_map.mp ho;unfold Ob.jh at hk⊢;split
 ·rename_i h hh;obtain⟨_,_,_,_,_,g,_⟩:=Ob.bU hw hh;have:h.n=5:=by unfold Sp.fk at g;grind
  simp[this]
 grind
theorem Dw(p:Nat)(S:aJ)(cs:List aX)(hw:aY S cs):Gl.Spec ρ Zp 205 [pA p] [aF p S cs] RS
  fun r M=>∃l:List da,M=[aw r 6 (l.flatMap rc),aF p S cs]∧l.Perm (refsOf S)∧jx 0 l.length l:=by
 refine So (F.proc.refs.calls _) fun R=>?_;unfold F.proc.refs;refine ai (ue p S _ hw) ar ?_;rintro r1 M ⟨rfl,hn1⟩;have hol:(Ob.eR S).length<2^14:=by have:=Sp.df hw.wf;unfold Ob.eR;grind
 have hrl:=wU hw;refine Tr.ta (s:=r1) (os:=Ob.eR S) tk fun ρ1 hle1 hobs=>?_;unfold refsOf;generalize Ob.eR S=os at*;obtain⟨_,lo,hlo,hro,hqs⟩:=hobs;have hll:lo.length=os.length:=by rw[←hlo];simp
 refine Tr.cg 6<|aM (fun m u M=>(fun(t:av) (i:Int)=>M=aw t 6 (((os.take i.toNat).filterMap eM).flatMap rc)::aF p S cs::R∧0≤i∧i≤os.length∧m=os.length-i.toNat) u.1 u.2.1) os.length ?_ ?_;·simp
 ·rintro m ⟨(t:av),(i:Int),⟨⟩⟩ M ⟨rfl,i0,i1,rfl⟩ X hX;dsimp only at i0 i1 hX⊢;refine u1 (s:=t) (l:=(os.take i.toNat).filterMap eM) tk fun htn=>?_;have hfl:((os.take i.toNat).filterMap eM).length≤os.length:=Nat.le_trans (List.length_filterMap_le _ _) fC;refine ag (fun h=>?_) (fun h=>?_)
  ·replace h:i<(r1.n:Int):=oT h;have hi:i.toNat<os.length:=by omega
   have hx:lo[i.toNat]? =some lo[i.toNat]:=List.getElem?_eq_getElem ae;have hxo:os[i.toNat]? =some lo[i.toNat].1:=by grind
   have ht:(os.take (i+1).toNat).filterMap eM=(os.take i.toNat).filterMap eM++[lo[i.toNat].1].filterMap eM:=by rw[show(i+1).toNat=i.toNat+1 by omega,List.take_add_one,hxo,List.filterMap_append];rfl
   obtain⟨hq,hqn⟩:=hqs _ (List.mem_of_getElem? hx);have h5:=hrl _ (List.mem_of_getElem? hxo);generalize lo[i.toNat]=y at*;obtain⟨⟨a,⟨k,c,n,f⟩,ws⟩,q⟩:=y;dsimp only at hq hqn h5 ht;refine bz hro i0 h fun a0 ha=>kU (x:=(a,k,c,n,f,q,())) ha hro fX (fun e v he=>?_) ?_;·have hlt:e<6:=(List.getElem?_eq_some_iff.1 he).1;rw[Nat.add_zero,eJ (g:=jQ) (m:=6) (fun _=>rfl) hx hlt];exact he
   dsimp only;refine aq fun b6=>?_;rw[LF];refine iT<|aT bL tk rfl ?_;rw[bG (n:=i+1)];refine ag (fun h2=>?_) (fun h2=>?_);·have h2:k=4:=eq_of_beq h2;have h5:=h5 h2;refine lS _ 5 q<|aA (aK [au b6 [.int .i64 a,.int .i64 k,.int .i64 c,.int .i64 n,.bool f,.slice q.a q.n q.c]] ar ?_);refine hI b6 0 a<|bo (k:=kI) (b:=b6) (off:=2) (x:=c) (by rw[aO,aO]) tk rfl<|fO hq (by omega) (by omega)<|fO hq (by omega) (by omega)<|fO hq (by omega) (by omega)<|fO hq (by omega) (by omega)<|aq fun b20=>eu (s:=t) (x:=⟨oA b20,1,1⟩) (ys:=rc (a,c,ws.getD (0:Int).toNat 0,ws.getD (1:Int).toNat 0,ws.getD (3:Int).toNat 0,ws.getD (4:Int).toNat 0,())) Ll tk (Rd.cl tk rfl rfl) rfl (by grind) (by grind) fun r hr=>tD (au b20 (rc (a,c,ws.getD (0:Int).toNat 0,ws.getD (1:Int).toNat 0,ws.getD (3:Int).toNat 0,ws.getD (4:Int).toNat 0,()))) ?_;refine tD (au b6 [.int .i64 a,.int .i64 k,.int .i64 c,.int .i64 n,.bool f,.slice q.a q.n q.c])<|hX (os.length-(i+1).toNat) _ _ (by omega) ⟨?_,by dsimp only;omega,by dsimp only;omega,rfl⟩;dsimp only;rw[ht,show[(⟨a,⟨k,c,n,f⟩,ws⟩:pX)].filterMap eM=[(a,c,ws.getD 0 0,ws.getD 1 0,ws.getD 3 0,ws.getD 4 0,())] by simp[eM,h2],List.flatMap_append];simp
   ·have h2:k≠4:=by simpa using h2
    refine tD (au b6 [.int .i64 a,.int .i64 k,.int .i64 c,.int .i64 n,.bool f,.slice q.a q.n q.c])<|hX (os.length-(i+1).toNat) _ _ ae ⟨?_,bq,bq,rfl⟩;dsimp only;rw[ht,show[(⟨a,⟨k,c,n,f⟩,ws⟩:pX)].filterMap eM=[] by simp[eM,h2],List.append_nil]
  ·replace h:¬i<(r1.n:Int):=oF h;rw[List.take_of_length_le ae]at hfl⊢;apply ai (Aa t (os.filterMap eM) ae) ar;rintro x' M ⟨l',rfl,hp,hs⟩;rw[←hp.length_eq]at hs;exact rT ⟨l',rfl,hp,hs⟩
theorem DD{A:List aD}(s:av)(xs:List Int)(hr:Rd ρ A s 1 (xs.map i64))(hl:xs.length<2^62)(v:Int):Gl.Spec ρ Zp 215 [.slice s.a s.n s.c,i64 v] A R1 fun r M=>(0≤r↔v∈xs)∧M=A:=by
 refine So (F.aL.Index.calls s v) fun R=>?_;have hn:s.n=xs.length:=by have:=hr.1;simpa using this.symm
 refine aM (fun n u M=>(fun j:Int=>M=A++R∧0≤j∧j≤xs.length∧n=xs.length-j.toNat∧v∉xs.take j.toNat) u.1) xs.length ?_ ?_;·simp
 ·rintro n ⟨(j:Int),⟨⟩⟩ M ⟨rfl,j0,j1,rfl,hno⟩ X hX;refine ag (fun h=>?_) (fun h=>?_)
  ·replace h:j<(s.n:Int):=oT h;have hj:j.toNat<xs.length:=by omega
   refine jg hr (aI.app A R) j0 ae<|ag (fun h2=>?_) (fun h2=>?_)
   ·have hin:v∈xs:=by grind
    exact ax rfl ⟨⟨fun _=>hin,fun _=>j0⟩,rfl⟩ (aI.app _ _) .refl
   ·rw[bG (n:=j+1)];refine hX _ _ _ ae ⟨rfl,bq,bq,rfl,?_⟩;rw[show(j+1).toNat=j.toNat+1 by omega,aE 0 hj,List.mem_append,List.mem_singleton];grind
  ·replace h:¬j<(s.n:Int):=oF h;rw[List.take_of_length_le ae]at hno;exact ax rfl ⟨⟨fun g=>absurd g bd,fun g=>absurd g hno⟩,rfl⟩ (aI.app _ _) .refl
theorem mZ{A:List aD}(s:av)(xs:List Int)(hr:Rd ρ A s 1 (xs.map i64))(hl:xs.length<2^62)(v:Int):Gl.Spec ρ Zp 227 [.slice s.a s.n s.c,i64 v] A RB fun r M=>r=decide (v∈xs)∧M=A:=by refine So (F.aL.uC.calls s v) fun R=>ai (DD s _ hr hl v) (aI.app A R) ?_;rintro r M ⟨hi,rfl⟩;refine ax ?_ ⟨rfl,rfl⟩ (aI.app _ _) .refl;show Value.bool _=Value.bool _;grind
def cy(S:aJ)(m:List Bool)(xs:List Int)(l:List da):List Int:=(l.filter fun r=>decide (r.2.1∈xs)&&gU S m r).map (·.1)
theorem qW(c t p room:Nat)(x:pS)(rf:av)(l:List da)(hrf:fx ρ rf 6 (l.flatMap rc))(hl:l.length<2^38)(S:aJ)(cs:List aX)(hw:aY S cs)(q:Mk.St)(z:av)(xs:List Int)(hz:fx ρ z 1 (xs.map i64))(hxl:xs.length<2^40):
  Gl.Spec ρ Zp 208 [pA c,.slice z.a z.n z.c] [nk c t p x rf,fI t p room q,aF p S cs] RS
  fun r M=>M=[aw r 1 ((cy S q.m xs l).map i64),nk c t p x rf,fI t p room q,aF p S cs]:=by
 refine So (F.proc.common.lX.calls _ z) fun R=>?_;have hn:rf.n=l.length:=by have:=hrf.1;rw[ji (g:=rc) (m:=6) iY]at this;omega
 refine af<|iL<|Tr.cg 1<|aM (fun m u M=>(fun o (i:Int)=>M=aw o 1 ((cy S q.m xs (l.take i.toNat)).map i64)::nk c t p x rf::fI t p room q::aF p S cs::R∧0≤i∧i≤l.length∧m=l.length-i.toNat) u.1 u.2.1) l.length ?_ ?_;·exact⟨rfl,bu,bq,bu⟩
 ·rintro m ⟨(o:av),(i:Int),⟨⟩⟩ M ⟨rfl,i0,i1,rfl⟩ X hX;dsimp only at i0 i1 hX⊢;refine ag (fun h=>?_) (fun h=>?_)
  ·replace h:i<(rf.n:Int):=oT h;have hi:i.toNat<l.length:=by omega
   have hii:l[i.toNat]? =some (l.getD i.toNat d6):=by grind
   have ht:l.take (i+1).toNat=l.take i.toNat++[l.getD i.toNat d6]:=by rw[show(i+1).toNat=i.toNat+1 by omega,aE d6 hi]
   refine bz hrf i0 h fun a0 ha=>kU (x:=l.getD i.toNat d6) ha hrf fX (fun e v he=>?_) ?_;·have hlt:e<6:=(List.getElem?_eq_some_iff.1 he).1;rw[Nat.add_zero,eJ (g:=rc) (m:=6) iY hii hlt];exact he
   generalize l.getD i.toNat d6=r at*;have hcl:((cy S q.m xs (l.take i.toNat))).length≤l.length:=by unfold cy;grind
   have hstep:cy S q.m xs (l.take (i+1).toNat)=cy S q.m xs (l.take i.toNat)++(if(decide (r.2.1∈xs)&&gU S q.m r)=true then[r.1]else[]):=by unfold cy;grind
   refine aq fun b7=>?_;obtain⟨r1,r2,r3,r4,r5,r6,⟨⟩⟩:=r;rw[show zc Zp 315=[.int .i64 0,.int .i64 0,.int .i64 0,.int .i64 0,.int .i64 0,.int .i64 0] by kernel_rfl];refine iT ?_;refine lI _ 1 _<|cE (mZ z _ (Rd.ro hz) ae _) ?_;rw[bG (n:=i+1)];have skip:¬(decide (r2∈xs)&&gU S q.m (r1,r2,r3,r4,r5,r6,()))=true→Tr ρ ρ (aw o 1 ((cy S q.m xs (l.take i.toNat)).map i64)::nk c t p x rf::fI t p room q::aF p S cs::R) (X (o,i+1,())) (SP RS (fun r M=>M=[aw r 1 ((cy S q.m xs l).map i64),nk c t p x rf,fI t p room q,aF p S cs]) R):=fun hc=>by refine hX (l.length-(i+1).toNat) _ _ ae ⟨?_,bq,bq,rfl⟩;grind
   refine ag (fun h2=>?_) (fun h2=>?_)
   ·refine aN (x:=(r1,r2,r3,r4,r5,r6,())) [] rfl tk rfl<|cE (rL c t p _ x _ S _ hw q _)<|ag (fun h3=>?_) (fun h3=>?_);·refine lI _ 0 _<|dm bJ tk ae fun r hr=>tD (au _ [.int _ r1,.int _ r2,.int _ r3,.int _ r4,.int _ r5,.int _ r6])<|hX (l.length-(i+1).toNat) _ _ ae ⟨?_,bq,bq,rfl⟩;rw[hstep,if_pos (by rw[h2,h3];rfl)]
    ·refine tD (au _ [.int _ r1,.int _ r2,.int _ r3,.int _ r4,.int _ r5,.int _ r6]) ?_;refine Tr.take tk (skip (by rw[h3];simp))
   ·refine tD _ (skip (by rw[h2];simp))
  ·replace h:¬i<(rf.n:Int):=oF h;rw[List.take_of_length_le ae];exact rT rfl
def cF(S:aJ)(m:List Bool)(o:List Int)(a:Int):List Int:=if gU S m (0,0,a,0,0,0,())=true∧a∉o then o++[a]else o
def bI(S:aJ)(m:List Bool)(fs:List Int):List Int:=fs.foldl (cF S m) []
theorem lg(S:aJ)(m:List Bool):∀(fs o:List Int),(fs.foldl (cF S m) o).length≤o.length+fs.length
 |[],o=>by simp
 |a::fs,o=>by
  have:=lg S m fs (cF S m o a);have h1:(cF S m o a).length≤o.length+1:=by unfold cF;split<;>simp
  grind
theorem zb(c t p room:Nat)(hroom:room≤4096)(x:pS)(rf:av)(fs:List Int)(hfs:fx ρ x.fi 1 (fs.map i64))(hl:fs.length<2^30)(S:aJ)(cs:List aX)(hw:aY S cs)(q:Mk.St)(H:Mk.Rest S cs room q):
  Gl.Spec ρ Zp 209 [.agg #[pA c]] [nk c t p x rf,fI t p room q,aF p S cs] RS
  fun r M=>∃q',M=[aw r 1 ((bI S q.m fs).map i64),nk c t p x rf,fI t p room q',aF p S cs]∧Mk.Rest S cs room q'∧∀a,Sp.has q'.m a=true↔(Sp.has q.m a=true∨Mk.pT S cs (bI S q.m fs) a):=by
 refine So (F.proc.uR.run.calls (oA c,())) fun R=>?_;have hn:=hfs.len;refine aq fun b1=>lP _ 0 c<|af<|aT bL tk rfl<|Tr.cg 1<|aM (fun m u M=>(fun o (i:Int)=>M=aw o 1 ((bI S q.m (fs.take i.toNat)).map i64)::au b1 [pA c]::nk c t p x rf::fI t p room q::aF p S cs::R∧0≤i∧i≤fs.length∧m=fs.length-i.toNat) u.1 u.2.1) fs.length ?_ ?_;·exact⟨rfl,bu,bq,bu⟩
 ·rintro m ⟨(o:av),(i:Int),⟨⟩⟩ M ⟨rfl,i0,i1,rfl⟩ X hX;dsimp only at i0 i1 hX⊢;have hpl:=lg S q.m (fs.take i.toNat) [];have hpl:(bI S q.m (fs.take i.toNat)).length≤fs.length:=by unfold bI;simp at hpl;omega
  refine Tr.fu tk fun hon=>ag (fun h=>?_) (fun h=>?_)
  ·replace h:i<(x.fi.n:Int):=oT h;have hi:i.toNat<fs.length:=by omega
   have hstep:bI S q.m (fs.take (i+1).toNat)=cF S q.m (bI S q.m (fs.take i.toNat)) (fs.getD i.toNat 0):=by unfold bI;rw[show(i+1).toNat=i.toNat+1 by omega,aE 0 hi,List.foldl_append];rfl
   apply cC hfs i0 ae;generalize fs.getD i.toNat 0=a at*;generalize bI S q.m (fs.take i.toNat)=os at*;refine iL<|cE (rL c t p _ x _ S _ hw q (0,0,a,0,0,0,())) ?_;rw[bG (n:=i+1)];have go:∀(o':av) (os':List Int),os'=cF S q.m os a→Tr ρ ρ (aw o' 1 (os'.map i64)::au b1 [pA c]::nk c t p x rf::fI t p room q::aF p S cs::R) (X (o',i+1,())) (SP RS (fun r M=>∃q',M=[aw r 1 ((bI S q.m fs).map i64),nk c t p x rf,fI t p room q',aF p S cs]∧Mk.Rest S cs room q'∧∀a,Sp.has q'.m a=true↔(Sp.has q.m a=true∨Mk.pT S cs (bI S q.m fs) a)) R):=fun o' os' e=>by refine hX (fs.length-(i+1).toNat) _ _ ae ⟨?_,bq,bq,rfl⟩;grind
   refine ag (fun h2=>?_) (fun h2=>?_)
   ·refine cE (mZ o os (Rd.sl .here (by simp[hon])) ae a)<|ag (fun h3=>?_) (fun h3=>?_)
    ·have h3:a∉os:=by simpa using h3
     refine dm bJ tk ae fun r hr=>Tr.take (A:=au _ [pA c]) tk (Tr.take (A:=aw r 1 _) tk ?_);exact go r _ (by unfold cF;rw[if_pos ⟨h2,h3⟩])
    ·refine Tr.take (A:=au _ [pA c]) tk (Tr.take (A:=aw o 1 _) tk ?_);exact go o _ (by unfold cF;grind)
   ·refine Tr.take (A:=au _ [pA c]) tk (Tr.take (A:=aw o 1 _) tk ?_);exact go o _ (by unfold cF;grind)
  ·replace h:¬i<(x.fi.n:Int):=oF h;rw[List.take_of_length_le ae]at hpl hon⊢;generalize bI S q.m fs=os at*;refine iL ?_;refine iN<|ai (AT t p _ hroom S _ hw q H o os (Rd.sl .here (by simp[hon])) ae) ar ?_;rintro x' M ⟨q2,rfl,H2,hq2⟩;exact rT ⟨q2,rfl,H2,hq2⟩
def KU(S:aJ)(h:Hd)(a:Int):da:=(a,h.c,(Ob.get S a 0).1,(Ob.get S a 1).1,(Ob.get S a 3).1,(Ob.get S a 4).1,())
theorem LJ{h:Hd}(hm:Sp.fk h=true)(hk:h.k=4):h.n=5:=by unfold Sp.fk at hm;grind
theorem xL{S:aJ}{cs:List aX}(hw:aY S cs){a:Int}{h:Hd}(hh:Ob.head S a=some h)(hk:h.k=4):eM (Ob.jh S a)=some (KU S h a):=by obtain⟨_,_,_,_,_,g,_⟩:=Ob.bU hw hh;have hn:=LJ g hk;unfold Ob.jh;rw[hh];unfold eM;dsimp only;rw[if_pos hk,hn];rfl
theorem eY{S:aJ}{cs:List aX}(hw:aY S cs){r:da}:r∈refsOf S↔∃h,Ob.head S r.1=some h∧h.k=4∧r=KU S h r.1:=by
 unfold refsOf Ob.eR;rw[List.mem_filterMap];constructor
 ·rintro⟨o,ho,hr⟩;obtain⟨a,_,rfl⟩:=List.mem_map.mp ho;cases hh:Ob.head S a with
  |none=>unfold Ob.jh at hr;rw[hh]at hr;simp[eM]at hr
  |some h=>
   by_cases hk:h.k=4;·rw[xL hw hh hk]at hr;injection hr with hr;subst hr;exact⟨h,hh,hk,rfl⟩
   ·unfold Ob.jh at hr;rw[hh]at hr;simp[eM,hk]at hr
 ·rintro⟨h,hh,hk,hr⟩;obtain⟨n,w,e,hf,_⟩:=Ob.bU hw hh;refine⟨Ob.jh S r.1,List.mem_map.mpr ⟨r.1,(fP hw.wf).mpr ⟨n,w,e,hf⟩,rfl⟩,?_⟩;rw[xL hw hh hk,←hr]
theorem Jh{S:aJ}{cs:List aX}(hw:aY S cs){r r':da}(h:r∈refsOf S)(h':r'∈refsOf S)(e:r.1=r'.1):r=r':=by obtain⟨hd,a1,_,a3⟩:=(eY hw).mp h;obtain⟨hd',b1,_,b3⟩:=(eY hw).mp h';grind
theorem tm{S:aJ}{cs:List aX}(hw:aY S cs):(refsOf S).length<2^14:=by have:=Sp.df hw.wf;apply Nat.lt_of_le_of_lt (List.length_filterMap_le _ _);unfold Ob.eR;grind
def rQ(S:aJ):Prop:=∀r∈refsOf S,∀r'∈refsOf S,bQ r=bQ r'→r=r'
theorem KC{l:List da}(h:jx 0 l.length l):l.Pairwise fun a b=>bQ a≤bQ b:=by rw[List.pairwise_iff_getElem];intro i j hi hj hij;have:=h i j ae hij hj;grind
theorem GA{S:aJ}(hk:rQ S){l l':List da}(hs:∀r∈l,r∈refsOf S)(hp:l.Perm l')(h:l.Pairwise fun a b=>bQ a≤bQ b)(h':l'.Pairwise fun a b=>bQ a≤bQ b):l=l':=by refine List.Perm.eq_of_pairwise (fun a b ha hb h1 h2=>?_) h h' hp;exact hk a (hs a ha) b (hs b (hp.mem_iff.mpr hb)) ae
theorem lH.mono{S:aJ}{cs:List aX}{l l':List da}{x x':pS}{R R':Int→Prop}(hl:∀r∈l,r∈l')(hx:x.all=x'.all∧x.clock=x'.clock∧x.free=x'.free∧x.ba=x'.ba)(hR:∀a,R a→R' a){a:Int}(h:lH S cs l x R a):lH S cs l' x' R' a:=by
 induction h with
 |base h=>exact .base (hR _ h)
 |kT hr h1 h2 _ h4 ho ha ih=>obtain⟨e1,e2,e3,e4⟩:=hx;exact .kT (hl _ hr) h1 (by rw[←e1];exact h2) ih eV ho ha
structure kl(S:aJ)(cs:List aX)(x:pS)(ro fs:List Int)(l:List da)(m2 m3:List Bool):Prop where
 perm:l.Perm (refsOf S)
 JT:l.Pairwise fun a b=>bQ a≤bQ b
 c2:Mk.ju S cs m2
 c3:Mk.ju S cs m3
 BT:∀a,Sp.has m2 a=true↔lH S cs (refsOf S) x (Mk.pT S cs ro) a
 Dk:∀a,Sp.has m3 a=true↔(Sp.has m2 a=true∨Mk.pT S cs (bI S m2 fs) a)
def bV(S:aJ)(m:List Bool)(cl:List Int):List Int:=cl.filter fun a=>Sp.has m a&&decide ((Ob.get S a 1).1>0)
def aU(S:aJ)(m2 m3:List Bool)(l:List da):List Int:=cy S m2 [1,2] l++cy S m3 [3] l
theorem kl.eq{S:aJ}{cs:List aX}{x x':pS}{ro fs:List Int}{l l':List da}{m2 m3 m2' m3':List Bool}(hk:rQ S)(hx:x.all=x'.all∧x.clock=x'.clock∧x.free=x'.free∧x.ba=x'.ba)(h:kl S cs x ro fs l m2 m3)(h':kl S cs x' ro fs l' m2' m3'):l=l'∧m2=m2'∧m3=m3':=by
 have e2:m2=m2':=Mk.has_eq (by rw[h.c2.len,h'.c2.len]) fun a=>by rw[h.BT,h'.BT];exact⟨lH.mono (fun _ h=>h) hx fun _ h=>h,lH.mono (fun _ h=>h) ⟨hx.1.symm,hx.2.1.symm,hx.2.2.1.symm,hx.2.2.2.symm⟩ fun _ h=>h⟩
 subst e2;refine⟨GA hk (fun r hr=>h.perm.mem_iff.mp hr) (h.perm.trans h'.perm.symm) h.JT h'.JT,rfl,Mk.has_eq (by rw[h.c3.len,h'.c3.len]) fun a=>by rw[h.Dk,h'.Dk]⟩
theorem kl.sZ{S:aJ}{cs:List aX}{x:pS}{ro fs:List Int}{l:List da}{m2 m3:List Bool}(hw:aY S cs)(h:kl S cs x ro fs l m2 m3):l.length<2^14:=by rw[h.perm.length_eq];exact tm hw
theorem g9{S:aJ}{m:List Bool}{xs:List Int}{l:List da}:(cy S m xs l).length≤l.length:=by unfold cy;grind
theorem kj{S:aJ}{m:List Bool}{xs:List Int}{l:List da}{a:Int}:a∈cy S m xs l↔∃r∈l,r.1=a∧r.2.1∈xs∧gU S m r=true:=by
 unfold cy;constructor;·grind
 ·rintro⟨r,hr,e,h1,h2⟩;grind
theorem vh{S:aJ}{m:List Bool}{r:da}:gU S m r=true↔(Mk.obj S r.2.2.1∧¬Sp.has m r.2.2.1=true):=by unfold gU Mk.obj;simp
theorem qa{S:aJ}{m:List Bool}:∀(fs o:List Int) {a:Int},a∈fs.foldl (cF S m) o↔(a∈o∨(a∈fs∧Mk.obj S a∧¬Sp.has m a=true))
 |[],o,a=>by simp
 |b::fs,o,a=>by
  rw[List.foldl_cons,qa fs];have e:a∈cF S m o b↔(a∈o∨(a=b∧Mk.obj S a∧¬Sp.has m a=true)):=by have hi:gU S m (0,0,b,0,0,0,())=true↔(Mk.obj S b∧¬Sp.has m b=true):=vh;unfold cF;grind
  grind
theorem AB{S:aJ}{m:List Bool}{fs:List Int}{a:Int}:a∈bI S m fs↔(a∈fs∧Mk.obj S a∧¬Sp.has m a=true):=by unfold bI;rw[qa];simp
namespace Gr
end Gr
theorem MF:zc Zp 3=[.int .i64 0]:=by kernel_rfl
theorem vM:zc Zp 120=[.slice none 0 0,.slice none 0 0,.slice none 0 0,.slice none 0 0]:=by kernel_rfl
theorem CR(b:Nat)(a:Int)(r:da):Gl.Spec ρ Zp 260 ([.agg (rc r).toArray]++[pA b]) [au b [i64 a]] RB fun v M=>v=(r.1==a)∧M=[au b [i64 a]]:=by refine So (F.proc.common.E0.calls r _) fun R=>?_;obtain⟨r1,r2,r3,r4,r5,r6,⟨⟩⟩:=r;exact aq fun b1=>lI _ 0 r1<|af<|iL<|rT
theorem Co{S:aJ}{m:List Bool}{xs:List Int}:(bV S m xs).length≤xs.length:=List.length_filter_le _ _
theorem G7{A:List aD}(c t p room:Nat)(x:pS)(rf:av)(l:List da)(hrf:fx ρ rf 6 (l.flatMap rc))(hl:l.length<2^38)(S:aJ)(cs:List aX)(hw:aY S cs)(hp:∀r∈l,r∈refsOf S)(q:Mk.St)(z:av)(xs:List Int)(hz:Rd ρ A z 1 (xs.map i64))(hxl:xs.length<2^38)(hin:∀a∈xs,∃r∈l,r.1=a):
  Gl.Spec ρ Zp 210 [pA c,.slice z.a z.n z.c] (nk c t p x rf::fI t p room q::A) RS
  fun r M=>M=aw r 1 ((bV S q.m xs).map i64)::nk c t p x rf::fI t p room q::A:=by
 refine So (F.proc.common.put.calls _ z) fun R=>?_;have hn:=hz.len;have hrn:rf.n=l.length:=by have:=hrf.1;rw[ji (g:=rc) (m:=6) iY]at this;omega
 refine Tr.cg 1<|aM (fun m u M=>(fun o (i:Int)=>M=aw o 1 ((bV S q.m (xs.take i.toNat)).map i64)::nk c t p x rf::fI t p room q::(A++R)∧0≤i∧i≤xs.length∧m=xs.length-i.toNat) u.1 u.2.1) xs.length ?_ ?_;·exact⟨rfl,bu,bq,bu⟩
 ·rintro m ⟨(o:av),(i:Int),⟨⟩⟩ M ⟨rfl,i0,i1,rfl⟩ X hX;dsimp only at i0 i1 hX⊢;refine ag (fun h=>?_) (fun h=>?_)
  ·replace h:i<(z.n:Int):=oT h;have hi:i.toNat<xs.length:=by omega
   have ht:xs.take (i+1).toNat=xs.take i.toNat++[xs.getD i.toNat 0]:=by rw[show(i+1).toNat=i.toNat+1 by omega,aE 0 hi]
   have hmem:xs.getD i.toNat 0∈xs:=by grind
   have hpl:=Co (S:=S) (m:=q.m) (xs:=xs.take i.toNat);rw[List.length_take]at hpl;have hstep:bV S q.m (xs.take (i+1).toNat)=bV S q.m (xs.take i.toNat)++(if(Sp.has q.m (xs.getD i.toNat 0)&&decide ((Ob.get S (xs.getD i.toNat 0) 1).1>0))=true then[xs.getD i.toNat 0]else[]):=by unfold bV;grind
   apply jg hz (aI.ly (aI.ly (aI.ly (aI.app A R)))) i0 ae;generalize xs.getD i.toNat 0=a at*;refine aq fun b5=>?_;rw[MF];refine iT<|af ?_;refine iL<|ai (vL _ l hrf ae Tryz.func260 (by kernel_rfl) (fun r hr=>CR b5 a r)) ar ?_;rintro r8 M ⟨hidx,rfl⟩;rcases hidx with ⟨rfl,hno⟩|⟨k,rfl,hk,hg⟩;·grind
   have hki:l[k]? =some (l.getD k d6):=by grind
   have hrin:=hp _ (List.mem_of_getElem? hki);have hg:=eq_of_beq hg;generalize l.getD k d6=r at*;obtain⟨hd,_,_,hr4⟩:=(eY hw).mp hrin;have hq4:r.2.2.2.1=(Ob.get S a 1).1:=by rw[hr4,hg];rfl
   refine aA (aK [nk c t p x rf,au _ [i64 a]] ar ?_);refine af<|jL<|jL<|cE (oP t p _ q a) ?_;refine aS ar (kK [nk c t p x rf,au _ [i64 a]] ar (fun w h=>h) ?_);rw[bG (n:=i+1)];have go:∀(o':av) (os:List Int),os=bV S q.m (xs.take (i+1).toNat)→Tr ρ ρ (aw o' 1 (os.map i64)::nk c t p x rf::fI t p room q::(A++R)) (X (o',i+1,())) (SP RS (fun r M=>M=aw r 1 ((bV S q.m xs).map i64)::nk c t p x rf::fI t p room q::A) R):=fun o' os e=>by refine hX (xs.length-(i+1).toNat) _ _ ae ⟨?_,bq,bq,rfl⟩;grind
   refine ag (fun h2=>?_) (fun h2=>?_)
   ·refine af<|jL<|bz hrf ae ae fun a0 ha=>?_;rw[Int.toNat_natCast];refine zC ha hrf (by rintro b o rfl;rw[aO,aO,Nat.add_assoc]) (by rw[eJ iY hki ae];rfl)<|ag (fun h3=>?_) (fun h3=>?_);·refine iL<|dm bJ tk ae fun r hr=>tD (au _ [i64 a]) ?_;refine Tr.take tk (Tr.take (A:=nk c t p x _) tk (Tr.take (A:=aw r 1 _) tk ?_));exact go r _ eV
    ·refine tD (au _ [i64 a]) ?_;refine Tr.take tk (Tr.take (A:=nk c t p x _) tk (Tr.take (A:=aw o 1 _) tk ?_));exact go o _ eV
   ·refine tD (au _ [i64 a]) ?_;refine Tr.take tk (Tr.take (A:=nk c t p x _) tk (Tr.take (A:=aw o 1 _) tk ?_));exact go o _ eV
  ·replace h:¬i<(z.n:Int):=oF h;rw[List.take_of_length_le ae];exact ax rfl rfl (.cons .here (.cons .here (.cons .here (aI.app A R)))) bE
abbrev yo:List LK:=[.slice,.slice,.slice,.slice]
abbrev OE:RK:= .many [.g yo,.l kI]
abbrev LS(x:pS):Value:= .agg #[.slice x.ro.a x.ro.n x.ro.c,.slice x.fi.a x.fi.n x.fi.c,.int .i64 x.clock,.int .i64 x.free,.int .i64 x.ba,.bool x.all,.int .i64 x.stack]
abbrev LC(x:pS):LTs [.slice,.slice,kI,kI,kI,.bool,kI]:=(x.ro,x.fi,x.clock,x.free,x.ba,x.all,x.stack,())
abbrev Ja(x:pS):List Value:=[.slice x.ro.a x.ro.n x.ro.c,.slice x.fi.a x.fi.n x.fi.c,.int .i64 x.clock,.int .i64 x.free,.int .i64 x.ba,.bool x.all,.int .i64 x.stack]
theorem sS{S:aJ}{m:List Bool}{fs:List Int}:(bI S m fs).length≤fs.length:=by have:=lg S m fs [];simpa[bI]using this
theorem KS{S:aJ}{m2 m3:List Bool}{l:List da}:(aU S m2 m3 l).length≤2*l.length:=by unfold aU;have h1:=g9 (S:=S) (m:=m2) (xs:=[1,2]) (l:=l);have h2:=g9 (S:=S) (m:=m3) (xs:=[3]) (l:=l);grind
theorem xE(p:Nat)(S:aJ)(cs:List aX)(hw:aY S cs)(x:pS)(hx:x.Ok)(ro fs:List Int)(hro:fx ρ x.ro 1 (ro.map i64))(hfi:fx ρ x.fi 1 (fs.map i64))(hl1:ro.length<2^30)(hl2:fs.length<2^30)
  (hst:∀r∈refsOf S,r.2.2.2.2.1<9223372036854775808) (hs:1≤x.stack∧x.stack≤4096):
  Gl.Spec ρ Zp 147 [pA p,LS x] [aF p S cs] OE
  fun r M=>∃(s1 s2 s3 s4:av) (l:List da) (m2 m3:List Bool),r=((s1,s2,s3,s4,()),0,())∧kl S cs x ro fs l m2 m3∧
   M=[aw s1 1 ((aU S m2 m3 l).map i64),aw s2 1 ((bV S m3 (aU S m2 m3 l)).map i64),aw s3 1 ((bI S m2 fs).map i64),aw s4 1 ((Mk.all m3).map i64),aF p S cs]:=by
 refine So (F.proc.Process.calls _ (LC x)) fun R=>?_;have hroom:x.stack.toNat≤4096:=by omega
 have hwl:=hw.wf.len;have hwm:=hw.wf.fF;refine aq fun b1=>aq fun b2=>lI _ 6 x.stack<|ai (Fg p S _ hw _ hs.1 hs.2) ar ?_;rintro x' M ⟨t,rfl,rfl⟩;refine bF<|aA (aK [au b1 (Ja x)] ar ?_);refine qh (x:=LC x) [] rfl tk rfl<|ai (Dw p S _ hw) ar ?_;rintro rf M ⟨l,rfl,hp,hsr⟩;refine cK ?_;have hll:l.length<2^14:=by rw[hp.length_eq];exact tm hw
 have hlm:∀r,r∈l↔r∈refsOf S:=fun r=>hp.mem_iff;refine aq fun b8=>Tr.cL tk fun ρ1 hle1 hrf=>?_;replace hro:=hro.le hle1;replace hfi:=hfi.le hle1;refine aA<|lP _ 0 t<|lS _ 0 x.ro<|ai (vR t p _ hroom S _ hw _ Mk.LH _ _ hro ae) ar ?_;rintro x' M ⟨q1,rfl,H1,hq1⟩;apply ai (zW _ t p _ hroom x hx _ l hrf ae (fun r hr=>hst r ((hlm r).mp hr)) S cs hw q1 H1) ar;rintro x' M ⟨q2,rfl,H2,hq2⟩;refine aq fun b13=>?_;rw[vM];refine aq fun b14=>Rd.bk (n:=2) (m:=1) (vs:=([1,2]:List Int).map _) rfl tk fun ρ2 hle2 ro2=>?_;replace hrf:=hrf.le hle2;replace hfi:=hfi.le hle2;refine ai (qW _ t p _ x _ l hrf ae S _ hw _ ⟨oA b14,2,2⟩ [1,2] ro2 bd) ar ?_;rintro r15 M rfl;refine iT ?_;refine Tr.take (A:=au _ [.slice _ _ r15.c,.slice _ 0 0,.slice _ 0 0,.slice _ 0 0]) tk<|ai (zb _ t p _ hroom x _ _ hfi hl2 S _ hw _ H2) ar ?_;rintro r16 M ⟨q3,rfl,H3,hq3⟩;apply sT b13 2;refine Tr.take (A:=au _ [.slice _ _ r15.c,.slice _ 0 0,.slice _ _ r16.c,.slice _ 0 0]) tk<|aA (aK [au _ [.slice _ _ r15.c,.slice _ 0 0,.slice _ _ r16.c,.slice _ 0 0]] ar ?_);refine jL<|aq fun b19=>aS ar<|Rd.bk (m:=1) (vs:=([3]:List Int).map _) rfl tk fun ρ3 hle3 ro3=>?_;replace hrf:=hrf.le hle3;refine ai (qW _ t p _ x _ l hrf ae S _ hw _ ⟨oA b19,1,1⟩ [3] ro3 bd) ar ?_;rintro r20 M rfl;apply ma hle3 ar;have hc2:=g9 (S:=S) (m:=q2.m) (xs:=[1,2]) (l:=l);have hc3:=g9 (S:=S) (m:=q3.m) (xs:=[3]) (l:=l);refine Tr.fu tk fun hn20=>bj bJ tk (Rd.sl tk (by simp[hn20])) ae fun r21 h21=>iT ?_;refine Tr.take (A:=au _ [.slice _ _ r21.c,.slice _ 0 0,.slice _ _ r16.c,.slice _ 0 0]) tk<|iL<|ai (G7 _ t p _ x _ l hrf ae S _ hw (fun r hr=>(hlm r).mp hr) q3 r21 (cy S q2.m [1,2] l++cy S q3.m [3] l) (Rd.sl .here (by simp[h21])) eV (fun a ha=>?_)) ar ?_
 ·rcases List.mem_append.mp ha with ha|ha;·obtain⟨r,hr,e,_⟩:=kj.mp ha;exact⟨r,hr,e⟩
  ·obtain⟨r,hr,e,_⟩:=kj.mp ha;exact⟨r,hr,e⟩
 rintro r23 M rfl;apply sT b13 1;refine Tr.take (A:=au _ [.slice _ _ r21.c,.slice _ _ r23.c,.slice _ _ r16.c,.slice _ 0 0]) tk<|iL ?_;have hl3:=H3.closed.len;refine ai (uy t p _ q3 ae) ar ?_;rintro r25 M rfl;apply sT b13 3;refine Tr.take (A:=au _ [.slice _ _ r21.c,.slice _ _ r23.c,.slice _ _ r16.c,.slice _ _ r25.c]) tk<|iG<|iT ?_;refine Tr.take (A:=au _ [.slice r21.a r21.n r21.c,.slice r23.a r23.n r23.c,.slice r16.a r16.n r16.c,.slice r25.a r25.n r25.c]) tk<|iG<|ax rfl ⟨r21,r23,r16,r25,l,q2.m,q3.m,rfl,⟨hp,KC hsr,H2.closed,H3.closed,fun a=>?_,hq3⟩,rfl⟩ ar bE;rw[hq2 a];have e1:∀a,Sp.has q1.m a=true↔Mk.pT S cs ro a:=fun a=>by rw[hq1 a,Mk.LB];simp
 exact⟨lH.mono (fun r hr=>(hlm r).mp hr) ⟨rfl,rfl,rfl,rfl⟩ fun a h=>(e1 a).mp h,lH.mono (fun r hr=>(hlm r).mpr hr) ⟨rfl,rfl,rfl,rfl⟩ fun a h=>(e1 a).mpr h⟩
end Go.Proofs.YtjginndmmlkjiaaGreat
