/- Steps that come together: elements of slices of numbers are read, put, appended. -/
import Derived.Test.YtfepdmpplahloaaGreatGsClass
import Derived.Test.YtfepdmpplahloaaGreatGsLaw5
import Derived.Test.YtfepdmpplahloaaGreatGsTr1
set_option linter.unusedSimpArgs false
set_option linter.unusedVariables false
namespace Go.Proofs.YtfepdmpplahloaaGreat
open Go Go.Gl
variable{ρ0 ρ:FR}{L L':List aA}{Post:Value→List aA→Prop}{T:Tree}
theorem _root_.Go.Gl.eX.len{s:ay}{xs:List Int}(hr:eX ρ s 1 (xs.map i64)):s.n=xs.length:=by have:=hr.1;simpa using this.symm
theorem _root_.Go.Gl.eX.len8{s:ay}{xs:List Int}(hr:eX ρ s 1 (xs.map fun x=> .int .u8 x)):s.n=xs.length:=by have:=hr.1;simpa using this.symm
theorem _root_.Go.Gl.Tr.jZ{s:ay}{xs:List Int}(t:Take L (aE s 1 (xs.map i64)) L')(h:s.n=xs.length→Tr ρ0 ρ L T Post):Tr ρ0 ρ L T Post:=
 Tr.fD t fun h1 _=>h (by simpa using h1.symm)
theorem iE{s:ay}{xs:List Int}{i:Int}{f:Int→Tree}(hr:eX ρ s 1 (xs.map i64))(h0:0≤i)(h1:i<xs.length)(h:Tr ρ0 ρ L (f (xs.getD i.toNat 0)) Post):
  Tr ρ0 ρ L (ix s.a s.n i 1 fun a=>ld (.l (.int .i64)) a f) Post:=by
 have hn:=hr.len
 refine bJ hr h0 (by omega) fun a0 ha=> ?_
 exact bZ (k:= .int .i64) (j:=i.toNat) (x:=xs.getD i.toNat 0) ha hr (by rintro b o rfl;simp[af]) (getD_map (by omega)) h
theorem z8{ns:List Int}{i:Nat}(hi:i<ns.length):(ns.map fun x=>Value.int .u8 x)[i]? =some ((LK.int .u8).val (ns.getD i 0)):=by
 rw[List.getElem?_map,List.getElem?_eq_getElem hi,List.getD_eq_getElem?_getD,List.getElem?_eq_getElem hi];rfl
theorem zn{s:ay}{xs:List Int}{i:Int}{f:Int→Tree}(hr:eX ρ s 1 (xs.map fun x=> .int .u8 x))(h0:0≤i)(h1:i<xs.length)(h:Tr ρ0 ρ L (f (xs.getD i.toNat 0)) Post):
  Tr ρ0 ρ L (ix s.a s.n i 1 fun a=>ld (.l (.int .u8)) a f) Post:=by
 have hn:=hr.len8
 refine bJ hr h0 (by omega) fun a0 ha=> ?_
 exact bZ (k:= .int .u8) (j:=i.toNat) (x:=xs.getD i.toNat 0) ha hr (by rintro b o rfl;simp[af]) (z8 (by omega)) h
theorem dY{s:ay}{xs:List Int}{i:Int}{f:Int→Tree}(t:Take L (aE s 1 (xs.map i64)) L')(h0:0≤i)(h1:i<xs.length)(h:Tr ρ0 ρ L (f (xs.getD i.toNat 0)) Post):
  Tr ρ0 ρ L (ix s.a s.n i 1 fun a=>ld (.l (.int .i64)) a f) Post:=by
 refine Tr.jZ t fun hn=> ?_
 refine cn t h0 (by omega) fun a0 ha=> ?_
 exact cT (k:= .int .i64) (j:=i.toNat) (x:=xs.getD i.toNat 0) ha t (by rintro b o rfl;simp[af]) (getD_map (by omega)) h
theorem tZ{s:ay}{xs:List Int}{i v:Int}{k:Tree}(t:Take L (aE s 1 (xs.map i64)) L')(h0:0≤i)(h1:i<xs.length)(h:Tr ρ0 ρ (aE s 1 ((xs.set i.toNat v).map i64)::L') k Post):
  Tr ρ0 ρ L (ix s.a s.n i 1 fun a=>st a [.int .i64 v] k) Post:=by
 refine Tr.jZ t fun hn=> ?_
 refine cn t h0 (by omega) fun a0 ha=> ?_
 refine gu (j:=i.toNat) ha t (by rintro b o rfl;simp[af]) (by simp;omega) rfl ?_
 rw[show bN (xs.map i64) i.toNat [.int .i64 v]=(xs.set i.toNat v).map i64 by simp[bN,List.map_set]]
 exact h
theorem gw{P:Program}{ts:Array TypeId}{ty tt:TypeId}{s:ay}{xs:List Int}{v:Int}{k:RT (.one (.l .slice))→Tree}(hok:lU P ts 1 8=true)(t:Take L (aE s 1 (xs.map i64)) L')(hb:xs.length<2^40)
  (h:∀r:ay,r.n=xs.length+1→Tr ρ0 ρ (aE r 1 ((xs++[v]).map i64)::L') (k r) Post):
  Tr ρ0 ρ L (nw tt [.int .i64 v] fun b=>c9 P (Builtin.append_ ts ty #[.slice s.a s.n s.c,.slice (some ⟨b,0,none⟩) 1 1]) (.one (.l .slice)) k) Post:=by
 refine Tr.jZ t fun hn=> ?_
 refine ax fun b=> ?_
 refine df (x:=⟨some ⟨b,0,none⟩,1,1⟩) (ys:=[i64 v]) hok (.skip t) (Rd.cl .here rfl rfl) rfl (by rw[hn];dsimp only;omega) (by rw[hn];dsimp only;omega) fun r hr=> ?_
 rw[show xs.map i64++[i64 v]=(xs++[v]).map i64 by simp]
 exact Tr.drop (.skip .here) (h r (by rw[hr,hn]))
theorem jA{P:Program}{ts:Array TypeId}{ty:TypeId}{s x:ay}{xs ys:List Int}{k:RT (.one (.l .slice))→Tree}(hok:lU P ts 1 8=true)(t:Take L (aE s 1 (xs.map i64)) L')(hy:Rd ρ L' x 1 (ys.map i64))(hb:xs.length+ys.length<2^40)
  (h:∀r:ay,r.n=xs.length+ys.length→Tr ρ0 ρ (aE r 1 ((xs++ys).map i64)::L') (k r) Post):
  Tr ρ0 ρ L (c9 P (Builtin.append_ ts ty #[.slice s.a s.n s.c,.slice x.a x.n x.c]) (.one (.l .slice)) k) Post:=by
 refine Tr.jZ t fun hn=> ?_
 have hx:x.n=ys.length:=by have:=hy.1;simpa using this.symm
 refine df (x:=x) (ys:=ys.map i64) hok t hy (by simp[jX]) (by rw[hn,hx];omega) (by rw[hn,hx];omega) fun r hr=> ?_
 rw[←List.map_append]
 exact h r (by rw[hr,hn,hx])
theorem _root_.Go.Gl.aI.mn{B:aA}{L M R:List aA}(h:aI L M R):aI (B::L) M (B::R):=by
 induction h with
 |nil=>exact .nil
 |cons t _ ih=>exact .cons (.skip t) ih
theorem _root_.Go.Gl.Rd.on{A L R:List aA}{s:ay}{m:Nat}{ys:List Value}(h:Rd ρ A s m ys)(t:aI L A R):Rd ρ L s m ys:=⟨h.1,fun w hw=>h.2 w (hw.perm t.perm).left⟩
theorem _root_.Go.Gl.Rd.len{A:List aA}{s:ay}{xs:List Int}(hr:Rd ρ A s 1 (xs.map i64)):s.n=xs.length:=by have:=hr.1;simpa using this.symm
theorem iP{A R:List aA}{s:ay}{xs:List Int}{i:Int}{f:Int→Tree}(hr:Rd ρ A s 1 (xs.map i64))(t:aI L A R)(h0:0≤i)(h1:i<xs.length)(h:Tr ρ0 ρ L (f (xs.getD i.toNat 0)) Post):
  Tr ρ0 ρ L (ix s.a s.n i 1 fun a=>ld (.l (.int .i64)) a f) Post:=fun hle w hw=>by
 have hn:=hr.len
 rcases(hr.on t).2 w hw with h2|⟨b,off,hs,hc⟩
 ·omega
 ·refine⟨⟨b,off,none⟩,hs,h0,by omega,xs.getD i.toNat 0,?_,h hle w hw⟩
  rw[af,Nat.mul_one,hc i.toNat (by simp;omega)]
  exact getD_map (by omega)
theorem kV{M:List aA}{s:ay}{xs:List Int}{i:Int}{f:Int→Tree}(hr:eX ρ s 1 (xs.map i64))(h0:0≤i)(h1:i<xs.length)(h:Tr ρ0 ρ L (f (xs.getD i.toNat 0)) Post):
  Tr ρ0 ρ L (ix s.a s.n i 1 fun a=>bm (Sat ρ M) (.l (.int .i64)) a f) Post:=by
 have hn:=hr.len
 refine bJ hr h0 (by omega) fun a0 ha=> ?_
 obtain⟨h1,hr|⟨b,off,cs,ty,fr,g1,g2,g3⟩⟩:=hr
 ·omega
 ·rw[ha]at g1
  injection g1 with g1
  exact rV (k:= .int .i64) (x:=xs.getD i.toNat 0) (by rw[g1,af,Nat.mul_one]) g2 (by rw[g3 i.toNat (by simp;omega)];exact getD_map (by omega)) h
end Go.Proofs.YtfepdmpplahloaaGreat
namespace Go.Gl
open Go
variable{ρ0 ρ:FR}{L L':List aA}{Post:Value→List aA→Prop}
theorem tL{M:List aA}{s:ay}{m:Nat}{xs:List Value}{k:LK}{a a0:Addr}{f:LT k→Tree}{j:Nat}{x:LT k}(hs:s.a=some a0)(hr:eX ρ s m xs)(ha:∀b o,a0=⟨b,o,none⟩→a=⟨b,o+j,none⟩)
  (hx:xs[j]? =some (k.val x)) (h:Tr ρ0 ρ L (f x) Post):Tr ρ0 ρ L (yw (Sat ρ M) k a f) Post:=by
 have hj:j<xs.length:=by
  rcases Nat.lt_or_ge j xs.length with h|h
  ·exact h
  ·rw[List.getElem?_eq_none h]at hx;cases hx
 obtain⟨h1,hr|⟨b,off,cs,ty,fr,g1,g2,g3⟩⟩:=hr
 ·rw[hr]at h1;simp at h1;rw[h1]at hj;simp at hj
 ·rw[hs]at g1
  injection g1 with g1
  exact rV (ha b off g1) g2 (by rw[g3 j hj,hx]) h
theorem El{ns:List Int}(hb:∀x∈ns,(Lit.int .u8 x).wf=true):∀x∈ns,0≤x∧x<256:=fun x hx=>by
 have:=hb x hx
 simp[Lit.wf,IntKind.min,IntKind.max,IntKind.signed,IntKind.bits]at this
 omega
theorem Ci{ns:List Int}(hb:∀x∈ns,0≤x∧x<256)(i:Nat):0≤ns.getD i 0∧ns.getD i 0<256:=by
 rw[List.getD_eq_getElem?_getD]
 cases h:ns[i]? with
 |none=>simp
 |some x=>exact hb x (List.mem_of_getElem? h)
theorem tU{s:ay}{m:Nat}{xs:List Value}{a0 a:Addr}{j:Nat}(hs:s.a=some a0)(hr:eX ρ s m xs)(ha:∀b o,a0=⟨b,o,none⟩→a=⟨b,o+j,none⟩):
  ∀(ks:List LK) (i:Nat) {f:LTs ks→Tree} {x:LTs ks} (_:∀e v,(dh ks x)[e]? =some v→xs[j+i+e]? =some v) (_:Tr ρ0 ρ L (f x) Post),Tr ρ0 ρ L (Bk a i ks f) Post
 |[],i,f,x,_,h=>h
 |k::ks,i,f,x,hv,h=>by
  refine bZ (j:=j+i) (x:=x.1) hs hr (fun b o e=>by rw[ha b o e,af,Nat.add_assoc]) (by simpa using hv 0 (k.val x.1) rfl) ?_
  exact tU hs hr ha ks (i+1) (x:=x.2) (fun e v he=>by have:=hv (e+1) v he;rw[←this];congr 1;omega) h
theorem sB{s:ay}{m:Nat}{xs:List Value}{a0 a:Addr}{j:Nat}{ks:List LK}{f:LTs ks→Tree}{x:LTs ks}(hs:s.a=some a0)(hr:eX ρ s m xs)(ha:∀b o,a0=⟨b,o,none⟩→a=⟨b,o+j,none⟩)
  (hv:∀e v,(dh ks x)[e]? =some v→xs[j+0+e]? =some v) (h:Tr ρ0 ρ L (f x) Post):Tr ρ0 ρ L (ld (.g ks) a f) Post:=tU hs hr ha ks 0 hv h
end Go.Gl
namespace Go.Proofs.YtfepdmpplahloaaGreat
open Go Go.Gl
variable{ρ0 ρ:FR}{L L':List aA}{Post:Value→List aA→Prop}{T:Tree}
namespace Gr
end Gr
end Go.Proofs.YtfepdmpplahloaaGreat
namespace Go.Proofs.YtfepdmpplahloaaGreat
open Go Go.Gl
variable{ρ0 ρ:FR}{L L':List aA}{Post:Value→List aA→Prop}{T:Tree}
theorem DU(s:ay)(l:List Int)(ro:eX ρ s 1 (l.map i64))(hl:l.length<2^62)(x:Int):Gl.Spec ρ Tryz.prog 19 [.slice s.a s.n s.c,i64 x] [] RB fun r M=>r=decide (x∈l)∧M=[]:=by
 refine Spec.of (fun Q w hh=>F.dM.In.calls s x hh) fun R=> ?_
 unfold F.dM.In
 try simp only[aq,al]
 have hsn:=ro.len
 refine aP (fun m u M=>(fun(i:Int)=>M=R∧0≤i∧i≤l.length∧m=l.length-i.toNat∧x∉l.take i.toNat) u.1) l.length ?_ ?_
 ·exact⟨rfl,by simp,by dsimp only;omega,by simp,by simp⟩
 ·rintro m ⟨(i:Int),⟨⟩⟩ M ⟨rfl,i0,i1,rfl,hn⟩ X hX
  dsimp only at*
  refine aj (fun h=> ?_) (fun h=> ?_)
  ·replace h:i<(s.n:Int):=of_decide_eq_true h
   have hi:i.toNat<l.length:=by omega
   refine iE ro i0 (by omega) ?_
   refine aj (fun h2=> ?_) (fun h2=> ?_)
   ·have h2:=eq_of_beq h2
    have hin:x∈l:=by rw[←h2,List.getD_eq_getElem?_getD,List.getElem?_eq_getElem hi];exact List.getElem_mem hi
    refine aa (x:=decide (x∈l)) ?_ ⟨rfl,rfl⟩ ag aB
    rw[decide_eq_true hin];rfl
   ·have h2:l.getD i.toNat 0≠x:=by simpa using h2
    rw[wrap64 (by omega) (by omega)]
    refine hX (l.length-(i+1).toNat) _ _ (by omega) ⟨rfl,by dsimp only;omega,by dsimp only;omega,rfl,?_⟩
    dsimp only
    rw[show(i+1).toNat=i.toNat+1 by omega,aJ 0 hi,List.mem_append,List.mem_singleton]
    rintro(h|h)
    ·exact hn h
    ·exact h2 h.symm
  ·replace h:¬i<(s.n:Int):=of_decide_eq_false h
   rw[List.take_of_length_le (by omega)]at hn
   refine aa (x:=decide (x∈l)) ?_ ⟨rfl,rfl⟩ ag aB
   rw[decide_eq_false hn];rfl
end Go.Proofs.YtfepdmpplahloaaGreat
