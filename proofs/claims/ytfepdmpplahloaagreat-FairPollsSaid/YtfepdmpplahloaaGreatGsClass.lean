/- Map Blk Head Class. -/
import Derived.Test.YtfepdmpplahloaaGreatGsOp
import Derived.Test.YtfepdmpplahloaaGreatGsMid
set_option linter.unusedSimpArgs false
set_option linter.unusedVariables false
namespace Go.Gl
open Go
section
variable{α:Type}
def di(k:Int):List (Int×α)→Option α
 |[]=>none|x::l=>if x.1=k then some x.2 else di k l
def gq(k:Int)(a:α):List (Int×α)→List (Int×α)
 |[]=>[(k,a)]|x::l=>if x.1=k then(k,a)::l else x::gq k a l
def ir(k:Int):List (Int×α)→List (Int×α)
 |[]=>[]|x::l=>if x.1=k then l else x::ir k l
def lh(f:α→Value)(k:Int):List (Int×α)→Nat→Option (Nat×Value)
 |[],_=>none|x::l,i=>if x.1=k then some (i,f x.2)else lh f k l (i+1)
theorem jr(f:α→Value)(k:Int):∀(l:List (Int×α)) (i:Nat),
  (lh f k l i=none∧di k l=none∧(∀a,gq k a l=l++[(k,a)])∧ir k l=l∧k∉l.map (·.1))∨
  ∃j a,lh f k l i=some (i+j,f a)∧di k l=some a∧l[j]? =some (k,a)∧(∀a',gq k a' l=l.set j (k,a'))∧ir k l=l.eraseIdx j:=by
 intro l
 induction l with
 |nil=>intro i;exact .inl ⟨rfl,rfl,fun _=>rfl,rfl,by simp⟩
 |cons x l ih=>
  intro i
  by_cases hx:x.1=k
  ·refine .inr ⟨0,x.2,by simp[lh,hx],by simp[di,hx],by simp[←hx],fun a'=>by simp[gq,hx],by simp[ir,hx]⟩
  ·rcases ih (i+1)with ⟨h1,h2,h3,h4,h5⟩|⟨j,a,h1,h2,h3,h4,h5⟩
   ·refine .inl ⟨by simp[lh,hx,h1],by simp[di,hx,h2],fun a=>by simp[gq,hx,h3],by simp[ir,hx,h4],?_⟩
    simp only[List.map_cons,List.mem_cons,not_or]
    exact⟨fun h=>hx h.symm,h5⟩
   ·exact .inr ⟨j+1,a,by simp[lh,hx,h1];omega,by simp[di,hx,h2],by simpa using h3,fun a'=>by simp[gq,hx,h4],by simp[ir,hx,h5]⟩
structure vX(f:α→Value)(es:List MapEntry)(clock:Nat)(l:List (Int×α)):Prop where
 kv:es.map (fun e=>(e.key,e.val))=l.map fun x=>(.int .i64 x.1,f x.2)
 lT:∀e∈es,e.born<clock
 Eu:(es.map (·.born)).Nodup
 keys:(l.map (·.1)).Nodup
def IM(b:Nat)(f:α→Value)(l:List (Int×α)):aA:=fun h=>∃es clock,vX f es clock l∧mp b es.toArray clock h
theorem sM{f:α→Value}(k:Int):∀(es:List MapEntry) (l:List (Int×α)) (i:Nat),es.map (fun e=>(e.key,e.val))=l.map (fun x=>(.int .i64 x.1,f x.2))→
  Instr.findNow (.int .i64) (.int .i64 k) es i=some (lh f k l i):=by
 intro es
 induction es with
 |nil=>intro l i h;cases l with
  |nil=>rfl
  |cons x l=>simp at h
 |cons e es ih=>intro l i h;cases l with
  |nil=>simp at h
  |cons x l=>
   simp only[List.map_cons,List.cons.injEq,Prod.mk.injEq]at h
   obtain⟨⟨h1,h2⟩,h3⟩:=h
   have hs:Instr.sameNow (.int .i64) (.int .i64 k) e.key=some (k==x.1):=by rw[h1];simp[Instr.sameNow]
   unfold Instr.findNow
   rw[hs]
   by_cases hx:x.1=k
   ·have:(k==x.1)=true:=by simp[hx]
    simp[this,lh,hx,h2]
   ·have:(k==x.1)=false:=by simp;exact fun h=>hx h.symm
    simp[this,lh,hx,ih l (i+1) h3]
theorem kU{P:Program}{w:World}{kt:TypeId}(hd:P.underlying kt=some (.int .i64))(k:Int)(e:Bool):(Instr.checkKey e 10000 kt (.int .i64 k)).run P w= .ok () w:=by
 unfold Instr.checkKey
 simp only[Sem.run_bind,Gl.run_underlying hd,Result.andThen]
 rfl
theorem mu{P:Program}{w:World}{kt:TypeId}{f:α→Value}{es:List MapEntry}{l:List (Int×α)}(hd:P.underlying kt=some (.int .i64))(k:Int)(h:es.map (fun e=>(e.key,e.val))=l.map (fun x=>(.int .i64 x.1,f x.2))):
  (Instr.findKey kt (.int .i64 k) es).run P w= .ok (lh f k l 0) w:=by
 unfold Instr.findKey
 simp only[Sem.run_bind,Gl.run_underlying hd,Result.andThen,sM k es l 0 h,Sem.run_pure]
theorem eo{P:Program}{w:World}{r:Nat}{es:Array MapEntry}{c:Nat}(hb:w.heap[r]? =some (.map es c)):(getObj r).run P w= .ok (.map es c) w:=by
 simp[getObj,Sem.run,hb]
theorem jE{P:Program}{w:World}{r:Nat}{es:Array MapEntry}{c:Nat}{o':Obj}(hb:w.heap[r]? =some (.map es c)):(setObj r o').run P w= .ok () {w with heap:=w.heap.setIfInBounds r o'}:=by
 simp[setObj,Sem.run,hb]
theorem qZ{P:Program}{w:World}{r:Nat}{m:Option Nat}{s:Nat}{seen:Array Nat}{c:Nat}(hb:w.heap[r]? =some (.mapIter m s seen c)):(getObj r).run P w= .ok (.mapIter m s seen c) w:=by
 simp[getObj,Sem.run,hb]
theorem xg{P:Program}{w:World}{r:Nat}{m:Option Nat}{s:Nat}{seen:Array Nat}{c:Nat}{o':Obj}(hb:w.heap[r]? =some (.mapIter m s seen c)):(setObj r o').run P w= .ok () {w with heap:=w.heap.setIfInBounds r o'}:=by
 simp[setObj,Sem.run,hb]
theorem oJ{w:World}{r:Nat}{o o':Obj}(hb:w.heap[r]? =some o)(c:Nat):({w with heap:=w.heap.setIfInBounds r o'}:World).heap[c]? =if c=r then some o' else w.heap[c]? :=by
 have hr:r<w.heap.size:=by
  rcases Nat.lt_or_ge r w.heap.size with h|h
  ·exact h
  ·simp[Array.getElem?_eq_none h]at hb
 simp only[Array.getElem?_setIfInBounds]
 by_cases hc:c=r
 ·subst hc;simp[hr]
 ·simp[hc,Ne.symm hc]
variable{ρ0 ρ:FR}{L L':List aA}{Post:Value→List aA→Prop}
theorem Sat.im{b:Nat}{f:α→Value}{l:List (Int×α)}{w:World}(H:Sat ρ (IM b f l::L) w):∃es clock,vX f es clock l∧Sat ρ (mp b es.toArray clock::L) w:=by
 obtain⟨⟨h,⟨h1,h2,hd,rfl,⟨es,clock,hc,ha⟩,hl⟩,hh⟩,h3⟩:=H
 exact⟨es,clock,hc,⟨_,⟨h1,h2,hd,rfl,ha,hl⟩,hh⟩,h3⟩
theorem Sat.BW{b:Nat}{f:α→Value}{l:List (Int×α)}{es:List MapEntry}{clock:Nat}{w:World}(he:vX f es clock l)(H:Sat ρ (mp b es.toArray clock::L) w):Sat ρ (IM b f l::L) w:=
 Sat.imp (fun _ h=>⟨es,clock,he,h⟩) H
theorem oK{k:Nat→Tree}(f:α→Value)(h:∀b,Tr ρ0 ρ (IM b f []::L) (k b) Post):Tr ρ0 ρ L (Ej k) Post:=
 Du fun b=>Tr.imp .here (fun _ hh=>⟨[],0,⟨rfl,by simp,by simp,by simp⟩,hh⟩) (h b)
theorem l9{P:Program}{mt kt et:TypeId}{b:Nat}{f:α→Value}{l:List (Int×α)}{k:Int}{kd:LK}{g:α→LT kd}{z0:LT kd}{K:RT (.many [.l kd,.l .bool])→Tree}
  (hm:P.underlying mt=some (.map kt et)) (hk:P.underlying kt=some (.int .i64)) (hz:(P.info? et).bind (·.zero)=some (kd.val z0)) (hg:∀a,f a=kd.val (g a)) (t:Take L (IM b f l) L')
  (h:Tr ρ0 ρ L (K (match di k l with |some a=>(g a,true,())|none=>(z0,false,()))) Post):
  Tr ρ0 ρ L (c9 P (Instr.lookup mt (.map (some b)) (.int .i64 k) true) (.many [.l kd,.l .bool]) K) Post:=by
 refine gQ (fun r M=>r=(match di k l with |some a=>(g a,true,())|none=>(z0,false,()))∧M=L) (fun w hw=> ?_) (by rintro x M ⟨rfl,rfl⟩;exact h)
 obtain⟨es,clock,he,hs⟩:=(hw.perm t.perm).im
 have hb:=hs.pt
 refine⟨_,w,L,?_,⟨rfl,rfl⟩,hw⟩
 unfold Instr.lookup
 simp only[Sem.run_bind,Gl.run_underlying hm,Result.andThen_ok,eo hb,kU hk,mu hk k he.kv,Sem.run_pure]
 rcases jr f k l 0 with ⟨h1,h2,_⟩|⟨j,a,h1,h2,_⟩
 ·rw[h1,h2]
  simp only[Sem.run_bind,Gl.dX hz,Result.andThen_ok,Sem.run_pure]
  rfl
 ·rw[h1,h2]
  simp only[Sem.run_pure,Result.andThen_ok,if_true,hg]
  rfl
theorem mI{P:Program}{mt kt et:TypeId}{b:Nat}{f:α→Value}{l:List (Int×α)}{k:Int}{kd:LK}{g:α→LT kd}{z0:LT kd}{K:RT (.one (.l kd))→Tree}
  (hm:P.underlying mt=some (.map kt et)) (hk:P.underlying kt=some (.int .i64)) (hz:(P.info? et).bind (·.zero)=some (kd.val z0)) (hg:∀a,f a=kd.val (g a)) (t:Take L (IM b f l) L')
  (h:Tr ρ0 ρ L (K (match di k l with |some a=>g a|none=>z0)) Post):
  Tr ρ0 ρ L (c9 P (Instr.lookup mt (.map (some b)) (.int .i64 k) false) (.one (.l kd)) K) Post:=by
 refine gQ (fun r M=>r=(match di k l with |some a=>g a|none=>z0)∧M=L) (fun w hw=> ?_) (by rintro x M ⟨rfl,rfl⟩;exact h)
 obtain⟨es,clock,he,hs⟩:=(hw.perm t.perm).im
 have hb:=hs.pt
 refine⟨_,w,L,?_,⟨rfl,rfl⟩,hw⟩
 unfold Instr.lookup
 simp only[Sem.run_bind,Gl.run_underlying hm,Result.andThen_ok,eo hb,kU hk,mu hk k he.kv,Sem.run_pure]
 rcases jr f k l 0 with ⟨h1,h2,_⟩|⟨j,a,h1,h2,_⟩
 ·rw[h1,h2]
  simp only[Sem.run_bind,Gl.dX hz,Result.andThen_ok,Sem.run_pure]
  rfl
 ·rw[h1,h2]
  simp only[Sem.run_pure,Result.andThen_ok,hg]
  rfl
theorem BL{P:Program}{s:Sem Unit}{k:Tree}{M:List aA}(hr:∀w,Sat ρ L w→∃w',s.run P w= .ok () w'∧Sat ρ M w')(h:Tr ρ0 ρ M k Post):Tr ρ0 ρ L (fz P s k) Post:=fun hle w hw=>by
 obtain⟨w',h1,h2⟩:=hr w hw
 exact⟨w',h1,h hle w' h2⟩
theorem cN{β γ:Type}{g:β→γ}:∀{l:List β} {j:Nat},(l.map g).eraseIdx j=(l.eraseIdx j).map g
 |[],_=>rfl
 |_::_,0=>rfl
 |x::l,j+1=>by simp[cN (l:=l) (j:=j)]
theorem py{f:α→Value}{es:List MapEntry}{l:List (Int×α)}{j:Nat}{k:Int}{a a':α}(h:es.map (fun e=>(e.key,e.val))=l.map (fun x=>(.int .i64 x.1,f x.2)))(hj:l[j]? =some (k,a)):
  (es.modify j fun e=>{e with key:= .int .i64 k,val:=f a'}).map (fun e=>(e.key,e.val))=(l.set j (k,a')).map (fun x=>(.int .i64 x.1,f x.2)):=by
 apply List.ext_getElem?
 intro i
 have hi:=congrArg (fun l=>l[i]?) h
 simp only[List.getElem?_map]at hi
 simp only[List.getElem?_map,List.getElem?_modify,List.getElem?_set]
 by_cases hji:j=i
 ·subst hji
  have hl:j<l.length:=by
   rcases Nat.lt_or_ge j l.length with h|h
   ·exact h
   ·rw[List.getElem?_eq_none h]at hj;cases hj
  rw[hj]at hi
  cases he:es[j]? with
  |none=>rw[he]at hi;simp at hi
  |some e=>simp[hl]
 ·simp[hji,hi]
theorem nf{P:Program}{mt kt et:TypeId}{b:Nat}{f:α→Value}{l:List (Int×α)}{k:Int}{v:Value}{a:α}{K:Tree}
  (hm:P.underlying mt=some (.map kt et)) (hk:P.underlying kt=some (.int .i64)) (hv:v=f a) (t:Take L (IM b f l) L') (h:Tr ρ0 ρ (IM b f (gq k a l)::L') K Post):
  Tr ρ0 ρ L (fz P (Instr.mapUpdate mt (.map (some b)) (.int .i64 k) v) K) Post:=by
 subst hv
 refine Tr.take t (BL (M:=IM b f (gq k a l)::L') (fun w hw=> ?_) h)
 obtain⟨es,clock,he,hs⟩:=hw.im
 have hb:=hs.pt
 unfold Instr.mapUpdate
 simp only[Sem.run_bind,Gl.run_underlying hm,Result.andThen_ok,eo hb,kU hk,mu hk k he.kv,Sem.run_pure]
 rcases jr f k l 0 with ⟨h1,h2,h3,h4,h5⟩|⟨j,a0,h1,h2,h3,h4,h5⟩
 ·rw[h1,h3 a]
  simp only[jE hb]
  have e2:es.toArray.push (⟨.int .i64 k,f a,clock⟩:MapEntry)=(es++[(⟨.int .i64 k,f a,clock⟩:MapEntry)]).toArray:=by simp
  rw[e2]
  refine⟨_,rfl,Sat.BW (es:=es++[(⟨.int .i64 k,f a,clock⟩:MapEntry)]) (clock:=clock+1) ⟨?_,?_,?_,?_⟩ (Sat.set hs (fun c=>oJ hb c))⟩
  ·simp[he.kv]
  ·intro e hm
   rcases List.mem_append.mp hm with hm|hm
   ·have:=he.lT e hm;omega
   ·simp at hm;subst hm;simp
  ·rw[List.map_append,List.nodup_append]
   refine⟨he.Eu,by simp,?_⟩
   intro x hx y hy
   simp at hx hy
   obtain⟨e,he1,rfl⟩:=hx
   have:=he.lT e he1
   subst hy;omega
  ·rw[List.map_append,List.nodup_append]
   refine⟨he.keys,by simp,?_⟩
   intro x hx y hy e
   simp only[List.map_cons,List.map_nil,List.mem_singleton]at hy
   exact h5 (by rw[←hy,←e];exact hx)
 ·rw[Nat.zero_add]at h1
  have hl:j<l.length:=by
   rcases Nat.lt_or_ge j l.length with h|h
   ·exact h
   ·rw[List.getElem?_eq_none h]at h3;cases h3
  have hlen:es.length=l.length:=by have:=congrArg List.length he.kv;simpa using this
  have hke:es[j]?.map (·.key)=some (.int .i64 k):=by
   have:=congrArg (fun l=>l[j]?) he.kv
   simp only[List.getElem?_map,h3,Option.map_some]at this
   cases he:es[j]? with
   |none=>rw[he]at this;simp at this
   |some e=>rw[he]at this;simp at this⊢;exact this.1
  rw[h1,h4 a]
  have hks:∀w,(Instr.keyThatStays (((es.toArray)[j]?.map (·.key)).getD (.int .i64 k)) (.int .i64 k)).run P w= .ok (.int .i64 k) w:=by
   intro w
   have:((es.toArray)[j]?.map (·.key)).getD (.int .i64 k)= .int .i64 k:=by simp[hke]
   rw[this]
   unfold Instr.keyThatStays
   have:Instr.sameBits 10000 (.int .i64 k) (.int .i64 k)=true:=by simp[Instr.sameBits]
   rw[if_pos this];rfl
  have e2:es.toArray.modify j (fun e=>{e with key:= .int .i64 k,val:=f a})=(es.modify j fun e=>{e with key:= .int .i64 k,val:=f a}).toArray:=by
   apply Array.ext';simp
  simp only[Sem.run_bind,hks,Result.andThen_ok,jE hb]
  rw[e2]
  refine⟨_,rfl,Sat.BW (es:=es.modify j fun e=>{e with key:= .int .i64 k,val:=f a}) (clock:=clock) ⟨py he.kv h3,?_,?_,?_⟩ (Sat.set hs (fun c=>oJ hb c))⟩
  ·intro e hm
   obtain⟨i,hi,rfl⟩:=List.getElem_of_mem hm
   simp only[List.getElem_modify]
   simp only[List.length_modify]at hi
   split
   ·exact he.lT es[i] (List.getElem_mem hi)
   ·exact he.lT es[i] (List.getElem_mem hi)
  ·have:(es.modify j fun e=>{e with key:= .int .i64 k,val:=f a}).map (·.born)=es.map (·.born):=by
    apply List.ext_getElem?
    intro i
    simp only[List.getElem?_map,List.getElem?_modify]
    split
    ·cases es[i]? <;>rfl
    ·simp
   rw[this];exact he.Eu
  ·have:(l.set j (k,a)).map (·.1)=l.map (·.1):=by
    apply List.ext_getElem?
    intro i
    simp only[List.getElem?_map,List.getElem?_set]
    by_cases hji:j=i
    ·subst hji;rw[h3];simp[hl]
    ·simp[hji]
   rw[this];exact he.keys
theorem zS{P:Program}{ts:Array TypeId}{mt kt et ty:TypeId}{b:Nat}{f:α→Value}{l:List (Int×α)}{k:Int}{K:RT (.many [])→Tree}
  (ht:ts[0]? =some mt) (hm:P.underlying mt=some (.map kt et)) (hk:P.underlying kt=some (.int .i64)) (t:Take L (IM b f l) L') (h:Tr ρ0 ρ (IM b f (ir k l)::L') (K ()) Post):
  Tr ρ0 ρ L (c9 P (Builtin.delete_ ts ty #[.map (some b),.int .i64 k]) (.many []) K) Post:=by
 refine Tr.take t (gQ (fun r M=>M=IM b f (ir k l)::L') (fun w hw=> ?_) (fun x M hM=>by subst hM;exact h))
 obtain⟨es,clock,he,hs⟩:=hw.im
 have hb:=hs.pt
 have a0:(#[.map (some b),.int .i64 k]:Array Value)[0]? =some (.map (some b)):=rfl
 have a1:(#[.map (some b),.int .i64 k]:Array Value)[1]? =some (.int .i64 k):=rfl
 unfold Builtin.delete_
 simp only[a0,a1,ht,Sem.run_bind,Gl.run_underlying hm,Result.andThen_ok,eo hb,kU hk,mu hk k he.kv,Sem.run_pure]
 have fin:∀es',vX f es' clock (ir k l)→∃x w' M,Result.ok (Value.tuple #[]) ({w with heap:=w.heap.setIfInBounds b (.map es'.toArray clock)}:World)= .ok ((RK.many []).val x) w'∧M=IM b f (ir k l)::L'∧Sat ρ M w':=fun es' he'=>
  ⟨(),_,_,rfl,rfl,Sat.BW he' (Sat.set hs (fun c=>oJ hb c))⟩
 rcases jr f k l 0 with ⟨h1,h2,h3,h4,h5⟩|⟨j,a0,h1,h2,h3,h4,h5⟩
 ·rw[h1]
  simp only[Sem.run_bind,jE hb,Result.andThen_ok]
  exact fin es (by rw[h4];exact he)
 ·rw[Nat.zero_add]at h1
  rw[h1]
  have e2:es.toArray.eraseIdxIfInBounds j=(es.eraseIdx j).toArray:=by simp
  simp only[Sem.run_bind,jE hb,Result.andThen_ok]
  rw[e2]
  refine fin (es.eraseIdx j) ?_
  rw[h5]
  refine⟨?_,fun e hm=>he.lT e ((List.eraseIdx_sublist es j).mem hm),?_,?_⟩
  ·rw[←cN,←cN,he.kv]
  ·rw[←cN];exact he.Eu.sublist (List.eraseIdx_sublist _ _)
  ·rw[←cN];exact he.keys.sublist (List.eraseIdx_sublist _ _)
def MI(b r:Nat)(f:α→Value)(l rem:List (Int×α))(cur:Option (Int×α)):aA:=fun h=>∃es clock seen,(vX f es clock l∧
  (∃res,res=es.filter (fun e=> !seen.contains e.born)∧res.map (fun e=>(e.key,e.val))=rem.map fun x=>(.int .i64 x.1,f x.2))∧
  (∀c,cur=some c→∃e,e∈es∧seen.back? =some e.born∧e.key= .int .i64 c.1∧e.val=f c.2))∧sep (pt r (.mapIter (some b) clock seen clock)) (mp b es.toArray clock) h
theorem Sat.mi{b r:Nat}{f:α→Value}{l rem:List (Int×α)}{cur:Option (Int×α)}{w:World}(H:Sat ρ (MI b r f l rem cur::L) w):∃es clock seen,(vX f es clock l∧
  (∃res,res=es.filter (fun e=> !seen.contains e.born)∧res.map (fun e=>(e.key,e.val))=rem.map fun x=>(.int .i64 x.1,f x.2))∧
  (∀c,cur=some c→∃e,e∈es∧seen.back? =some e.born∧e.key= .int .i64 c.1∧e.val=f c.2))∧Sat ρ (Gl.pt r (.mapIter (some b) clock seen clock)::mp b es.toArray clock::L) w:=by
 obtain⟨⟨h,⟨h1,h2,hd,rfl,⟨es,clock,seen,hc,ha⟩,hl⟩,hh⟩,h3⟩:=H
 exact⟨es,clock,seen,hc,⟨_,lN ⟨h1,h2,hd,rfl,ha,hl⟩,hh⟩,h3⟩
theorem Sat.DE{b r:Nat}{f:α→Value}{l rem:List (Int×α)}{cur:Option (Int×α)}{w:World}{es:List MapEntry}{clock:Nat}{seen:Array Nat} (hc:vX f es clock l∧
  (∃res,res=es.filter (fun e=> !seen.contains e.born)∧res.map (fun e=>(e.key,e.val))=rem.map fun x=>(.int .i64 x.1,f x.2))∧
  (∀c,cur=some c→∃e,e∈es∧seen.back? =some e.born∧e.key= .int .i64 c.1∧e.val=f c.2)) (H:Sat ρ (Gl.pt r (.mapIter (some b) clock seen clock)::mp b es.toArray clock::L) w):Sat ρ (MI b r f l rem cur::L) w:=by
 obtain⟨⟨h,hl,hh⟩,h3⟩:=H
 obtain⟨h1,h2,hd,rfl,ha,hl⟩:=kL hl
 exact⟨⟨_,⟨h1,h2,hd,rfl,⟨es,clock,seen,hc,ha⟩,hl⟩,hh⟩,h3⟩
theorem MI.over{b r:Nat}{f:α→Value}{l rem:List (Int×α)}{cur:Option (Int×α)}{T:Tree}(t:Take L (MI b r f l rem cur) L')(h:Tr ρ0 ρ (IM b f l::L') T Post):Tr ρ0 ρ L T Post:=fun hle w hw=>by
 obtain⟨es,clock,seen,⟨he,_⟩,hs⟩:=(hw.perm t.perm).mi
 exact h hle w (Sat.BW he hs.drop)
theorem uQ{P:Program}{mt kt et:TypeId}{b:Nat}{f:α→Value}{l:List (Int×α)}{K:RT (.one (.l .ptr))→Tree}
  (hm:P.underlying mt=some (.map kt et)) (t:Take L (IM b f l) L') (h:∀r,Tr ρ0 ρ (MI b r f l l none::L') (K (some ⟨r,0,none⟩)) Post):
  Tr ρ0 ρ L (c9 P (Instr.range mt (.map (some b))) (.one (.l .ptr)) K) Post:=by
 refine Tr.take t (gQ (fun x M=>∃r,x=some ⟨r,0,none⟩∧M=MI b r f l l none::L') (fun w hw=> ?_) (by rintro x M ⟨r,rfl,rfl⟩;exact h r))
 obtain⟨es,clock,he,hs⟩:=hw.im
 have hb:=hs.pt
 refine⟨some ⟨w.heap.size,0,none⟩,w.alloc (.mapIter (some b) clock #[] clock),_,?_,⟨w.heap.size,rfl,rfl⟩,?_⟩
 ·unfold Instr.range
  simp only[Sem.run_bind,Gl.run_underlying hm,Result.andThen_ok,eo hb,Sem.run_pure,run_newObj]
  rfl
 ·exact Sat.DE ⟨he,⟨es,by rw[List.filter_eq_self.mpr];intro e _;simp,he.kv⟩,nofun⟩ (Sat.new (o:= .mapIter (some b) clock #[] clock) hs)
theorem filter_one{es:List MapEntry}{seen:Array Nat}{i:Nat}{e:MapEntry}(hn:(es.map (·.born)).Nodup)(h:(es.filter (fun e=> !seen.contains e.born))[i]? =some e):
  es.filter (fun e'=> !(seen.push e.born).contains e'.born)=(es.filter (fun e=> !seen.contains e.born)).eraseIdx i:=by
 have h1:es.filter (fun e'=> !(seen.push e.born).contains e'.born)=(es.filter (fun e=> !seen.contains e.born)).filter (fun e'=> !(e'.born==e.born)):=by
  rw[List.filter_filter]
  apply List.filter_congr
  intro x _
  simp only[Array.contains_push]
  cases(x.born==e.born)<;>simp
 rw[h1]
 have hn2:((es.filter (fun e=> !seen.contains e.born)).map (·.born)).Nodup:=hn.sublist (List.filter_sublist.map _)
 revert h hn2
 generalize es.filter (fun e=> !seen.contains e.born)=l
 clear h1 hn
 induction l generalizing i with
 |nil=>intro h;simp at h
 |cons x l ih=>
  intro h hn2
  simp only[List.map_cons,List.nodup_cons]at hn2
  cases i with
  |zero=>
   simp at h;subst h
   rw[List.filter_cons_of_neg (by simp)]
   simp only[List.eraseIdx_cons_zero]
   rw[List.filter_eq_self]
   intro y hy
   have:y.born≠x.born:=fun hh=>hn2.1 (by rw[←hh];exact List.mem_map_of_mem hy)
   simp[this]
  |succ i=>
   simp at h
   have hx:x.born≠e.born:=fun hh=>hn2.1 (by rw[hh];exact List.mem_map_of_mem (List.mem_of_getElem? h))
   rw[List.filter_cons_of_pos (by simp[hx]),List.eraseIdx_cons_succ,ih h hn2.2]
theorem choose_lt{P:Program}{w:World}{n:Nat}(hn:0<n):∃i w',(choose (.mapNext n)).run P w= .ok i w'∧i<n∧w'.heap=w.heap∧Sm w w':=by
 rw[run_choose]
 split
 ·exact⟨0,w,rfl,hn,rfl,⟨rfl,rfl,rfl⟩⟩
 ·exact⟨_,_,rfl,Nat.mod_lt _ hn,rfl,⟨rfl,rfl,rfl⟩⟩
theorem vJ{P:Program}{ty:TypeId}{b r:Nat}{f:α→Value}{l rem:List (Int×α)}{cur:Option (Int×α)}{kv:LK}{g:α→LT kv}{k0:Tree}{k1:KT (.l (.int .i64))→KT (.l kv)→Tree}(hg:∀a,f a=kv.val (g a))(t:Take L (MI b r f l rem cur) L')
  (h0:rem=[]→Tr ρ0 ρ (MI b r f l [] none::L') k0 Post) (h1:∀k a r1 r2,rem=r1++(k,a)::r2→Tr ρ0 ρ (MI b r f l (r1++r2) (some (k,a))::L') (k1 k (g a)) Post):
  Tr ρ0 ρ L (ES P (Instr.next (.pointer (some ⟨r,0,none⟩)) false ty) (.l (.int .i64)) (.l kv) k0 k1) Post:=fun hle w hw=>by
 obtain⟨es,clock,seen,⟨he,⟨res,hres,hkv⟩,hcur⟩,hs⟩:=(hw.perm t.perm).mi
 have hr:=hs.pt
 have hb:=(hs.perm (List.Perm.swap _ _ _)).pt
 have c1:¬(((!seen.isEmpty&& !es.toArray.isEmpty)&&es.toArray.all fun x=>decide (x.born≥clock))=true):=by
  intro h
  simp only[Bool.and_eq_true]at h
  obtain⟨⟨_,h2⟩,h3⟩:=h
  cases es with
  |nil=>simp at h2
  |cons e es=>
   have:=he.lT e List.mem_cons_self
   simp at h3
   omega
 have hl:(es.toArray.filter fun e=> !seen.contains e.born)=res.toArray:=by rw[hres];simp
 have hold:res.toArray.filter (fun e=>decide (e.born<clock))=res.toArray:=by
  rw[List.filter_toArray]
  congr 1
  rw[List.filter_eq_self]
  intro e hm
  rw[hres]at hm
  have:=he.lT e (List.mem_filter.mp hm).1
  simp[this]
 have hnew:res.toArray.filter (fun e=>decide (e.born≥clock))= #[]:=by
  rw[List.filter_toArray]
  congr 1
  rw[List.filter_eq_nil_iff]
  intro e hm
  rw[hres]at hm
  have:=he.lT e (List.mem_filter.mp hm).1
  simp;omega
 have hrun:(Instr.next (.pointer (some ⟨r,0,none⟩)) false ty).run P w=(do
   match ((if res.toArray.isEmpty then #[none]else #[])++(res.toArray++ #[]).map some)[←choose (.mapNext ((if res.toArray.isEmpty then #[none]else #[])++(res.toArray++ #[]).map some).size)]? with
   |some (some e)=>
    setObj r (.mapIter (some b) clock (seen.push e.born) clock)
    pure (.tuple #[.bool true,e.key,e.val])
   |some none=>pure (.tuple #[.bool false])
   | none => stuck "Next: no such candidate" : Sem Value).run P w := by
  unfold Instr.next
  simp only[Sem.run_bind,qZ hr,Result.andThen_ok,eo hb,if_neg c1,hl,hold,hnew]
  rfl
 have hlen:rem.length=res.length:=by have:=congrArg List.length hkv;simpa using this.symm
 cases hres0:res with
 |nil=>
  rw[hres0]at hlen
  have hrem:rem=[]:=by simpa using hlen
  refine .inl ⟨w,?_,h0 hrem hle w (Sat.DE ⟨he,⟨res,hres,by rw[hres0];rfl⟩,nofun⟩ hs)⟩
  rw[hrun,hres0]
  simp only[List.isEmpty_toArray,List.isEmpty_nil,if_true,Array.append_empty,Array.map_empty,List.map_toArray,List.map_nil,List.size_toArray,List.length_nil,Sem.run_bind,run_choose,Question.forced]
  rfl
 |cons e0 res0=>
  have hpos:0<res.length:=by rw[hres0];simp
  have hne:res.toArray.isEmpty=false:=by rw[hres0];rfl
  simp only[hne,Bool.false_eq_true,if_false,Array.append_empty,Array.empty_append]at hrun
  obtain⟨i,w',hch,hi,hh,hsm⟩:=choose_lt (P:=P) (w:=w) (n:=(res.toArray.map some).size) (by simpa using hpos)
  have hi':i<res.length:=by simpa using hi
  have hri:i<rem.length:=by omega
  obtain⟨e,hei⟩:∃e,res[i]? =some e:=⟨res[i],by simp[hi']⟩
  have hsp:rem=rem.take i++(rem[i].1,rem[i].2)::rem.drop (i+1):=by
   rw[←List.drop_eq_getElem_cons hri,List.take_append_drop]
  have hki:e.key= .int .i64 rem[i].1∧e.val=f rem[i].2:=by
   have:=congrArg (fun l=>l[i]?) hkv
   simp only[List.getElem?_map,hei,Option.map_some]at this
   rw[List.getElem?_eq_getElem hri]at this
   simpa using this
  have hmem:e∈es:=by
   have:e∈res:=List.mem_of_getElem? hei
   rw[hres]at this
   exact(List.mem_filter.mp this).1
  refine .inr ⟨rem[i].1,g rem[i].2,{w' with heap:=w'.heap.setIfInBounds r (.mapIter (some b) clock (seen.push e.born) clock)},?_,h1 _ _ _ _ hsp hle _ ?_⟩
  ·rw[hrun]
   have hr':w'.heap[r]? =some (.mapIter (some b) clock seen clock):=by rw[hh];exact hr
   have hget:(res.toArray.map some)[i]? =some (some e):=by simp[hei]
   simp only[Sem.run_bind,hch,Result.andThen_ok,hget,xg hr',Sem.run_pure]
   rw[hki.1,hki.2,hg]
   rfl
  ·have hs':Sat ρ (Gl.pt r (.mapIter (some b) clock seen clock)::mp b es.toArray clock::L') w':=Sat.heap hh hsm hs
   have hr':w'.heap[r]? =some (.mapIter (some b) clock seen clock):=by rw[hh];exact hr
   refine Sat.DE ⟨he,⟨res.eraseIdx i,?_,?_⟩,?_⟩ (Sat.set hs' (fun c=>oJ hr' c))
   ·rw[hres]at hei⊢
    exact(filter_one he.Eu hei).symm
   ·rw[←cN,hkv,cN,List.eraseIdx_eq_take_drop_succ]
   ·intro c hc
    injection hc with hc
    subst hc
    exact⟨e,hmem,by simp,hki.1,hki.2⟩
theorem tP{e:MapEntry}:∀{es:List MapEntry},(es.map (·.born)).Nodup→e∈es→es.find? (fun x=>x.born==e.born)=some e
 |[],_,h=>by cases h
 |x::es,hn,hm=>by
  simp only[List.map_cons,List.nodup_cons]at hn
  by_cases hx:x.born=e.born
  ·rcases List.mem_cons.mp hm with h|h
   ·subst h;simp
   ·exact absurd (by rw[hx];exact List.mem_map_of_mem h) hn.1
  ·rw[List.find?_cons_of_neg (by simpa using hx)]
   rcases List.mem_cons.mp hm with h|h
   ·subst h;exact absurd rfl hx
   ·exact tP hn.2 h
theorem vK{P:Program}{b r:Nat}{f:α→Value}{l rem:List (Int×α)}{k:Int}{a:α}{kv:LK}{g:α→LT kv}{K:RT (.many [.l (.int .i64),.l kv])→Tree}(hg:∀a,f a=kv.val (g a))(t:Take L (MI b r f l rem (some (k,a))) L')
  (h:Tr ρ0 ρ L (K (k,g a,())) Post):Tr ρ0 ρ L (c9 P (Instr.entry (.pointer (some ⟨r,0,none⟩))) (.many [.l (.int .i64),.l kv]) K) Post:=by
 refine gQ (fun x M=>x=(k,g a,())∧M=L) (fun w hw=> ?_) (by rintro x M ⟨rfl,rfl⟩;exact h)
 obtain⟨es,clock,seen,⟨he,_,hcur⟩,hs⟩:=(hw.perm t.perm).mi
 have hr:=hs.pt
 have hb:=(hs.perm (List.Perm.swap _ _ _)).pt
 obtain⟨e,hm,hback,hk,hv⟩:=hcur _ rfl
 refine⟨_,w,L,?_,⟨rfl,rfl⟩,hw⟩
 have hfind:es.toArray.find? (fun x=>x.born==e.born)=some e:=by
  rw[List.find?_toArray]
  exact tP he.Eu hm
 unfold Instr.entry
 simp only[Sem.run_bind,qZ hr,Result.andThen_ok,hback,eo hb,bne_self_eq_false,Bool.false_eq_true,if_false,hfind,Sem.run_pure]
 rw[hk,hv,hg]
 rfl
end
end Go.Gl
namespace Go.Proofs.YtfepdmpplahloaaGreat
open Go Go.Gl
variable{ρ0 ρ:FR}{L L':List aA}{Post:Value→List aA→Prop}{T:Tree}
theorem iF{α:Type}{l:List α}{k:Nat}(d:α)(h:k<l.length):l.drop k=l.getD k d::l.drop (k+1):=by
 rw[List.drop_eq_getElem_cons h];simp[List.getD_eq_getElem?_getD,h]
theorem Rd.bk{b n m:Nat}{vs:List Value}(hl:vs.length=n*m)(t:Take L (aw b vs) L')(h:∀ρ',Le ρ ρ'→eX ρ' ⟨some ⟨b,0,none⟩,n,n⟩ m vs→Tr ρ0 ρ' L' T Post):Tr ρ0 ρ L T Post:=
 Tr.fv t fun ρ' ⟨ty,hr⟩ hle=>h ρ' hle ⟨hl,.inr ⟨b,0,_,ty,_,rfl,hr,fun i hi=>by simp⟩⟩
def Sp.dx:List Int:=[2,4,8,16,32]
def Sp.zE(w:Int):List Int→Int→Int
 |[],_=> -1|x::l,i=>if x≥w then i else Sp.zE w l (i+1)
def Sp.cls(w:Int):Int:=if w<1 then -1 else Sp.zE w Sp.dx 0
theorem Sp.iT(w:Int):(w<1∧Sp.cls w= -1)∨(1≤w∧w≤2∧Sp.cls w=0)∨(3≤w∧w≤4∧Sp.cls w=1)∨(5≤w∧w≤8∧Sp.cls w=2)∨(9≤w∧w≤16∧Sp.cls w=3)∨(17≤w∧w≤32∧Sp.cls w=4)∨(33≤w∧Sp.cls w= -1):=by
 unfold Sp.cls Sp.dx
 simp only[Sp.zE]
 repeat' split
 all_goals omega
theorem jh:Spec ρ Tryz.prog 214 [] [] (.one (.l .slice)) fun r M=>r.n=5∧M=[aE r 1 (Sp.dx.map i64)]:=by
 refine Spec.of (fun Q w h=>F.size.wk.calls h) fun R=> ?_
 unfold F.size.wk
 try simp only[aq,al]
 refine ax fun b=> ?_
 refine Tr.imp (A':=aE ⟨some ⟨b,0,none⟩,5,5⟩ 1 (Sp.dx.map i64)) .here (aE.wc rfl) ?_
 exact aa (x:=(⟨some ⟨b,0,none⟩,5,5⟩:ay)) rfl ⟨rfl,rfl⟩ ag aB
theorem lK(w:Int):Spec ρ Tryz.prog 213 [i64 w] [] R1 fun r M=>r=Sp.cls w∧M=[]:=by
 refine Spec.of (fun Q w' h=>F.size.Class.calls w h) fun R=> ?_
 unfold F.size.Class
 try simp only[aq,al]
 refine aj (fun h=> ?_) (fun h=> ?_)
 ·replace h:w<1:=of_decide_eq_true h
  refine aa (x:=Sp.cls w) ?_ ⟨rfl,rfl⟩ ag aB
  simp[Sp.cls,h,RK.val,KD.val,LK.val]
 ·replace h:¬w<1:=of_decide_eq_false h
  refine ae (jh) ag ?_
  rintro s M ⟨hs,rfl⟩
  try simp only[aq,al]
  refine Tr.cX (s:=s) tk fun ρ' hle hro=> ?_
  refine aP (fun n u M=>(fun i:Int=>M=R∧0≤i∧i≤5∧n=5-i.toNat∧Sp.cls w=Sp.zE w (Sp.dx.drop i.toNat) i) u.1) 5 ?_ ?_
  ·refine⟨rfl,by simp,by simp,by simp,?_⟩
   simp[Sp.cls,h]
  ·rintro n ⟨(i:Int),⟨⟩⟩ M ⟨rfl,h0,h1,rfl,hc⟩ X hX
   dsimp only at*
   refine aj (fun h2=> ?_) (fun h2=> ?_)
   ·replace h2:i<(s.n:Int):=of_decide_eq_true h2
    have hi:i.toNat<Sp.dx.length:=by rw[hs]at h2;show i.toNat<5;omega
    refine bJ hro h0 h2 fun a0 ha=> ?_
    refine bZ (j:=i.toNat) (x:=Sp.dx.getD i.toNat 0) ha hro (by rintro b o rfl;simp[af]) (getD_map hi) ?_
    rw[iF 0 hi]at hc
    unfold Sp.zE at hc
    refine aj (fun h3=> ?_) (fun h3=> ?_)
    ·rw[if_pos (of_decide_eq_true h3)]at hc
     refine aa (x:=Sp.cls w) ?_ ⟨rfl,rfl⟩ ag aB
     rw[hc];rfl
    ·rw[if_neg (of_decide_eq_false h3)]at hc
     rw[wrap64 (by omega) (by omega)]
     refine hX (5-(i+1).toNat) _ _ (by rw[hs]at h2;omega) ⟨rfl,by dsimp only;omega,by dsimp only;rw[hs]at h2;omega,rfl,?_⟩
     dsimp only;rw[hc,show(i+1).toNat=i.toNat+1 by omega]
   ·replace h2:¬i<(s.n:Int):=of_decide_eq_false h2
    rw[hs]at h2
    have:i=5:=by omega
    subst this
    refine aa (x:=Sp.cls w) ?_ ⟨rfl,rfl⟩ ag aB
    rw[hc];rfl
def Sp.jL(w:Int):Int:=if w<1∨w>1024∨0≤Sp.cls w then 0 else(w+63)/64
theorem pI(w:Int):Spec ρ Tryz.prog 215 [i64 w] [] R1 fun r M=>r=Sp.jL w∧M=[]:=by
 refine Spec.of (fun Q w' h=>F.size.fj.calls w h) fun R=> ?_
 unfold F.size.fj
 try simp only[aq,al]
 refine aj (fun h=> ?_) (fun h=> ?_)
 ·replace h:w<1:=of_decide_eq_true h
  refine aa (x:=Sp.jL w) ?_ ⟨rfl,rfl⟩ ag aB
  simp[Sp.jL,h,RK.val,KD.val,LK.val]
 ·replace h:¬w<1:=of_decide_eq_false h
  refine aj (fun h2=> ?_) (fun h2=> ?_)
  ·replace h2:w>1024:=of_decide_eq_true h2
   refine aa (x:=Sp.jL w) ?_ ⟨rfl,rfl⟩ ag aB
   simp[Sp.jL,h2,RK.val,KD.val,LK.val]
  ·replace h2:¬w>1024:=of_decide_eq_false h2
   refine ae (lK w) ag ?_
   rintro x M ⟨rfl,rfl⟩
   try simp only[aq,al]
   refine aj (fun h3=> ?_) (fun h3=> ?_)
   ·replace h3:Sp.cls w≥0:=of_decide_eq_true h3
    refine aa (x:=Sp.jL w) ?_ ⟨rfl,rfl⟩ ag aB
    rw[Sp.jL,if_pos (.inr (.inr h3))];rfl
   ·replace h3:¬Sp.cls w≥0:=of_decide_eq_false h3
    refine bu (by decide) ?_
    rw[wrap64 (n:=w+64) (by omega) (by omega),wrap64 (n:=w+64-1) (by omega) (by omega)]
    rw[Int.tdiv_eq_ediv_of_nonneg (by omega),wrap64 (by omega) (by omega)]
    refine aa (x:=Sp.jL w) ?_ ⟨rfl,rfl⟩ ag aB
    rw[Sp.jL,if_neg (by rintro(h'|h'|h')<;>omega)]
    show _=Value.int .i64 _
    congr 1;omega
def Sp.aw(w:Int):Int:=if 0≤Sp.cls w then Sp.dx.getD (Sp.cls w).toNat 0 else Sp.jL w*64
theorem vj(w:Int):Spec ρ Tryz.prog 194 [i64 w] [] R1 fun r M=>r=Sp.aw w∧M=[]:=by
 refine Spec.of (fun Q w' h=>F.size.Block.calls w h) fun R=> ?_
 unfold F.size.Block
 try simp only[aq,al]
 refine ae (lK w) ag ?_
 rintro x M ⟨rfl,rfl⟩
 try simp only[aq,al]
 have hcc:=Sp.iT w
 refine aj (fun h=> ?_) (fun h=> ?_)
 ·replace h:Sp.cls w≥0:=of_decide_eq_true h
  refine ae (jh) ag ?_
  rintro s M ⟨hs,rfl⟩
  try simp only[aq,al]
  refine cn (s:=s) (xs:=Sp.dx.map i64) tk h (by rw[hs];omega) fun a0 ha=> ?_
  refine cT (s:=s) (xs:=Sp.dx.map i64) (j:=(Sp.cls w).toNat) (x:=Sp.dx.getD (Sp.cls w).toNat 0) ha tk (by rintro b o rfl;simp[af]) (getD_map (by show _<5;omega)) ?_
  refine aa (x:=Sp.aw w) ?_ ⟨rfl,rfl⟩ ag aB
  rw[Sp.aw,if_pos h];rfl
 ·replace h:¬Sp.cls w≥0:=of_decide_eq_false h
  refine ae (pI w) ag ?_
  rintro x M ⟨rfl,rfl⟩
  try simp only[aq,al]
  have hb:0≤Sp.jL w∧Sp.jL w≤16:=by unfold Sp.jL;split<;>omega
  rw[wrap64 (by omega) (by omega)]
  refine aa (x:=Sp.aw w) ?_ ⟨rfl,rfl⟩ ag aB
  rw[Sp.aw,if_neg h];rfl
def bF(p:Nat)(l:List Bool)(w:Int):aA:=fun h=>∃b:Nat,star [aw p [.pointer (some ⟨b,0,none⟩),i64 w],aX b l] h
theorem bF.op{p:Nat}{l:List Bool}{w:Int}(t:Take L (bF p l w) L')(h:∀b:Nat,Tr ρ0 ρ (aw p [.pointer (some ⟨b,0,none⟩),i64 w]::aX b l::L') T Post):Tr ρ0 ρ L T Post:=
 Tr.gh (M:=fun b:Nat=>[aw p [.pointer (some ⟨b,0,none⟩),i64 w],aX b l]) (c:=fun _=>True) t (fun _ ⟨b,h⟩=>⟨b,trivial,h⟩) fun b _=>h b
theorem bF.cl{p b:Nat}{l:List Bool}{w:Int}(h:HP)(H:star [aw p [.pointer (some ⟨b,0,none⟩),i64 w],aX b l] h):bF p l w h:=⟨b,H⟩
def Sp.sz(c:Nat):Nat:=(Sp.dx.getD c 0).toNat
theorem Sp.cZ{c:Nat}(h:c<5):(c=0∧Sp.sz c=2)∨(c=1∧Sp.sz c=4)∨(c=2∧Sp.sz c=8)∨(c=3∧Sp.sz c=16)∨(c=4∧Sp.sz c=32):=by
 match c,h with
 |0,_=>decide
 |1,_=>decide
 |2,_=>decide
 |3,_=>decide
 |4,_=>decide
theorem Sp.rF{c:Nat}(h:c<5):Sp.dx.getD c 0=(Sp.sz c:Int):=by
 match c,h with
 |0,_=>decide
 |1,_=>decide
 |2,_=>decide
 |3,_=>decide
 |4,_=>decide
theorem xF(c:Nat)(hc:c<5):Spec ρ Tryz.prog 226 [i64 c] [] PE
  fun r M=>∃b,r=(some ⟨b,0,none⟩,0,())∧M=[bF b (List.replicate (64/Sp.sz c) false) (Sp.sz c)]:=by
 refine Spec.of (fun Q w' h=>F.block.dc.calls c h) fun R=> ?_
 unfold F.block.dc
 try simp only[aq,al]
 have hz:=Sp.cZ hc
 refine ae (jh) ag ?_
 rintro s M ⟨hs,rfl⟩
 try simp only[aq,al]
 refine ak (by simp) (ak (by simp[hs];omega) ?_)
 refine cn (s:=s) (xs:=Sp.dx.map i64) tk (by omega) (by rw[hs];omega) fun a0 ha=> ?_
 refine cT (s:=s) (xs:=Sp.dx.map i64) (j:=c) (x:=Sp.dx.getD c 0) ha tk (by rintro b o rfl;simp[af]) (getD_map (by show _<5;omega)) ?_
 rw[Sp.rF hc]
 refine bu (by omega) ?_
 have e:Int.tdiv 64 (Sp.sz c:Int)=((64/Sp.sz c:Nat):Int):=by
  rcases hz with ⟨_,h⟩|⟨_,h⟩|⟨_,h⟩|⟨_,h⟩|⟨_,h⟩<;>rw[h]<;>rfl
 have e2:64/Sp.sz c≤32:=by
  rcases hz with ⟨_,h⟩|⟨_,h⟩|⟨_,h⟩|⟨_,h⟩|⟨_,h⟩<;>rw[h]<;>decide
 rw[e]
 generalize 64/Sp.sz c=q at e2
 rw[wrap64 (by omega) (by omega)]
 refine ae (pj (q:Int) (by omega) (by omega)) ag ?_
 rintro x M ⟨b,rfl,rfl⟩
 try simp only[aq,al]
 refine ak rfl ?_
 refine cn (s:=s) (xs:=Sp.dx.map i64) tk (by omega) (by rw[hs];omega) fun a0 ha=> ?_
 refine cT (s:=s) (xs:=Sp.dx.map i64) (j:=c) (x:=Sp.dx.getD c 0) ha tk (by rintro b o rfl;simp[af]) (getD_map (by show _<5;omega)) ?_
 rw[Sp.rF hc]
 refine ax fun b2=> ?_
 rw[Int.toNat_natCast]
 refine Tr.close (M:=[aw b2 [.pointer (some ⟨b,0,none⟩),i64 (Sp.sz c)],aX b (List.replicate q false)]) ag (bF.cl (p:=b2)) ?_
 exact aa (x:=(some ⟨b2,0,none⟩,0,())) rfl ⟨b2,rfl,rfl⟩ ag aB
theorem dz(p:Nat)(l:List Bool)(w:Int):Spec ρ Tryz.prog 101 [.pointer (some ⟨p,0,none⟩)] [bF p l w] R1 fun r M=>r=w∧M=[bF p l w]:=by
 refine Spec.of (fun Q w' h=>F.block.fR.Words.calls (some ⟨p,0,none⟩) h) fun R=> ?_
 unfold F.block.fR.Words
 try simp only[aq,al]
 refine ak rfl (ah (bF.op tk fun b=> ?_))
 refine ai (k:= .int .i64) (x:=w) (by rw[af]) tk rfl ?_
 refine Tr.close (M:=[aw p [.pointer (some ⟨b,0,none⟩),i64 w],aX b l]) ag (bF.cl (p:=p)) ?_
 exact aa (x:=w) rfl ⟨rfl,rfl⟩ ag aB
theorem vO(p:Nat)(l:List Bool)(w:Int)(hl:l.length≤32):Spec ρ Tryz.prog 218 [.pointer (some ⟨p,0,none⟩)] [bF p l w] P2
  fun r M=>(Sp.next l 0 false= -1∧r=(0,3,())∧M=[bF p l w])∨∃i:Nat,Sp.next l 0 false=i∧i<l.length∧r=((i:Int),0,())∧M=[bF p (l.set i true) w]:=by
 refine Spec.of (fun Q w' h=>F.block.fR.Take.calls (some ⟨p,0,none⟩) h) fun R=> ?_
 unfold F.block.fR.Take
 try simp only[aq,al]
 refine ak rfl (ah (bF.op tk fun b=> ?_))
 refine ai (k:= .ptr) (x:=some ⟨b,0,none⟩) (by rw[af]) tk rfl ?_
 refine ae (eI b l 0 false (by omega)) ag ?_
 rintro x M ⟨rfl,rfl⟩
 try simp only[aq,al]
 rcases Sp.ft l false 0 with ⟨g1,g2⟩|⟨i,g1,g2,g3,g4,g5⟩
 ·rw[Int.natCast_zero]at g1
  rw[g1]
  refine aH rfl ?_
  refine Tr.close (M:=[aw p [.pointer (some ⟨b,0,none⟩),i64 w],aX b l]) ag (bF.cl (p:=p)) ?_
  exact aa (x:=(0,3,())) rfl (.inl ⟨rfl,rfl,rfl⟩) ag aB
 ·rw[Int.natCast_zero]at g1
  rw[g1]
  refine ak (by simp) (ah ?_)
  refine ai (k:= .ptr) (x:=some ⟨b,0,none⟩) (by rw[af]) tk rfl ?_
  refine ax fun b2=> ?_
  refine Rd.one tk fun ρ' hle hro=> ?_
  refine ae (jc b l true ⟨some ⟨b2,0,none⟩,1,1⟩ [(i:Int)] hro (by simp)) ag ?_
  rintro x M ⟨rfl,rfl⟩
  try simp only[aq,al]
  have ok:Sp.gi l [(i:Int)]=true:=by simp[Sp.gi,g3]
  rw[if_pos ok,if_pos ok]
  have e:Sp.dr l true [(i:Int)]=l.set i true:=by simp[Sp.dr]
  rw[e]
  refine Tr.close (M:=[aw p [.pointer (some ⟨b,0,none⟩),i64 w],aX b (l.set i true)]) ag (bF.cl (p:=p)) ?_
  exact aa (x:=((i:Int),0,())) rfl (.inr ⟨i,rfl,g3,rfl,rfl⟩) ag aB
theorem vM(p:Nat)(l:List Bool)(w:Int)(i:Nat)(hi:l.getD i false=true):Spec ρ Tryz.prog 190 [.pointer (some ⟨p,0,none⟩),i64 i] [bF p l w] R1
  fun r M=>r=0∧M=[bF p (l.set i false) w]:=by
 have hl:i<l.length:=by
  rcases Nat.lt_or_ge i l.length with h|h
  ·exact h
  ·rw[List.getD_eq_getElem?_getD,List.getElem?_eq_none h]at hi;cases hi
 refine Spec.of (fun Q w' h=>F.block.fR.qo.calls (some ⟨p,0,none⟩) i h) fun R=> ?_
 unfold F.block.fR.qo
 try simp only[aq,al]
 refine ak rfl (ah (bF.op tk fun b=> ?_))
 refine ai (k:= .ptr) (x:=some ⟨b,0,none⟩) (by rw[af]) tk rfl ?_
 refine ae (l4 b l i) ag ?_
 rintro x M ⟨rfl,rfl⟩
 try simp only[aq,al]
 refine ak (by simp[Sp.has,List.getD_eq_getElem?_getD]at hi⊢;exact hi) (ah ?_)
 refine ai (k:= .ptr) (x:=some ⟨b,0,none⟩) (by rw[af]) tk rfl ?_
 refine ax fun b2=> ?_
 refine Rd.one tk fun ρ' hle hro=> ?_
 refine ae (jc b l false ⟨some ⟨b2,0,none⟩,1,1⟩ [(i:Int)] hro (by simp)) ag ?_
 rintro x M ⟨rfl,rfl⟩
 try simp only[aq,al]
 have ok:Sp.gi l [(i:Int)]=true:=by simp[Sp.gi,hl]
 rw[if_pos ok,if_pos ok]
 have e:Sp.dr l false [(i:Int)]=l.set i false:=by simp[Sp.dr]
 rw[e]
 refine Tr.close (M:=[aw p [.pointer (some ⟨b,0,none⟩),i64 w],aX b (l.set i false)]) ag (bF.cl (p:=p)) ?_
 exact aa (x:=(0:Int)) rfl ⟨rfl,rfl⟩ ag aB
theorem ti(p:Nat)(l:List Bool)(w:Int)(hl:l.length≤32):Spec ρ Tryz.prog 191 [.pointer (some ⟨p,0,none⟩)] [bF p l w] RB
  fun r M=>r=decide (l.count true=0)∧M=[bF p l w]:=by
 refine Spec.of (fun Q w' h=>F.block.fR.Empty.calls (some ⟨p,0,none⟩) h) fun R=> ?_
 unfold F.block.fR.Empty
 try simp only[aq,al]
 refine aH rfl (ah (bF.op tk fun b=> ?_))
 refine ai (k:= .ptr) (x:=some ⟨b,0,none⟩) (by rw[af]) tk rfl ?_
 refine ae (qh b l (by omega)) ag ?_
 rintro x M ⟨rfl,rfl⟩
 try simp only[aq,al]
 refine Tr.close (M:=[aw p [.pointer (some ⟨b,0,none⟩),i64 w],aX b l]) ag (bF.cl (p:=p)) ?_
 refine aa (x:=decide (l.count true=0)) ?_ ⟨rfl,rfl⟩ ag aB
 simp only[RK.val,KD.val,LK.val]
 congr 1
 rw[Bool.eq_iff_iff];simp
theorem vD(p:Nat)(l:List Bool)(w:Int)(hl:l.length≤32):Spec ρ Tryz.prog 231 [.pointer (some ⟨p,0,none⟩)] [bF p l w] RB
  fun r M=>r=decide (l.count true=l.length)∧M=[bF p l w]:=by
 refine Spec.of (fun Q w' h=>F.block.fR.Full.calls (some ⟨p,0,none⟩) h) fun R=> ?_
 unfold F.block.fR.Full
 try simp only[aq,al]
 refine bF.op tk fun b=> ?_
 refine aK (aR [aw p [.pointer (some ⟨b,0,none⟩),i64 w],aX b l] ag ?_)
 refine aH rfl (ah ?_)
 refine ar (k:= .ptr) (x:=some ⟨b,0,none⟩) (by rw[af]) tk rfl (ah ?_)
 refine ar (k:= .ptr) (x:=some ⟨b,0,none⟩) (by rw[af]) tk rfl ?_
 refine ae (qh b l (by omega)) ag ?_
 rintro x M ⟨rfl,rfl⟩
 try simp only[aq,al]
 refine aN ag ?_
 refine ae (gD b l) ag ?_
 rintro x M ⟨rfl,rfl⟩
 try simp only[aq,al]
 refine Tr.close (M:=[aw p [.pointer (some ⟨b,0,none⟩),i64 w],aX b l]) ag (bF.cl (p:=p)) ?_
 refine aa (x:=decide (l.count true=l.length)) ?_ ⟨rfl,rfl⟩ ag aB
 simp only[RK.val,KD.val,LK.val]
 congr 1
 rw[Bool.eq_iff_iff];simp only[beq_iff_eq,decide_eq_true_eq];omega
end Go.Proofs.YtfepdmpplahloaaGreat
namespace Go.Gl
open Go
variable{ρ0 ρ:FR}{L L':List aA}{Post:Value→List aA→Prop}
theorem w7{a:Addr}{b off:Nat}{cs rest:List Value}(ha:a=⟨b,off,none⟩)(t:Take L (aw b cs) L'):∀(ks:List LK) (i:Nat) {f:LTs ks→Tree} {x:LTs ks} (_:cs.drop (off+i)=dh ks x++rest) (_:Tr ρ0 ρ L (f x) Post),Tr ρ0 ρ L (Bk a i ks f) Post
 |[],_,_,_,_,h=>h
 |k::ks,i,f,x,hv,h=>by
  unfold Bk
  simp only[dh,List.cons_append]at hv
  have h0:cs[off+i]? =some (k.val x.1):=by
   have:=congrArg (fun l=>l[0]?) hv
   simpa using this
  refine ai (k:=k) (x:=x.1) (off:=off+i) (by rw[ha,af]) t h0 ?_
  have h1:cs.drop (off+(i+1))=dh ks x.2++rest:=by
   have:=congrArg (fun l=>l.drop 1) hv
   simpa[List.drop_drop,Nat.add_assoc,Nat.add_comm 1]using this
  exact w7 ha t ks (i+1) h1 h
theorem bD{ks:List LK}{a:Addr}{f:LTs ks→Tree}{b off:Nat}{cs:List Value}{x:LTs ks}(rest:List Value)(ha:a=⟨b,off,none⟩)(t:Take L (aw b cs) L')(hv:cs.drop off=dh ks x++rest)(h:Tr ρ0 ρ L (f x) Post):Tr ρ0 ρ L (ld (.g ks) a f) Post:=
 w7 ha t ks 0 (rest:=rest) (by simpa using hv) h
theorem uy{M:List aA}{a:Addr}{b off:Nat}{cs rest:List Value}(ha:a=⟨b,off,none⟩)(t:Take M (aw b cs) L'):∀(ks:List LK) (i:Nat) {f:LTs ks→Tree} {x:LTs ks} (_:cs.drop (off+i)=dh ks x++rest) (_:Tr ρ0 ρ L (f x) Post),Tr ρ0 ρ L (ye (Sat ρ M) a i ks f) Post
 |[],_,_,_,_,h=>h
 |k::ks,i,f,x,hv,h=>by
  unfold ye
  simp only[dh,List.cons_append]at hv
  have h0:cs[off+i]? =some (k.val x.1):=by
   have:=congrArg (fun l=>l[0]?) hv
   simpa using this
  refine ar (k:=k) (x:=x.1) (off:=off+i) (by rw[ha,af]) t h0 ?_
  have h1:cs.drop (off+(i+1))=dh ks x.2++rest:=by
   have:=congrArg (fun l=>l.drop 1) hv
   simpa[List.drop_drop,Nat.add_assoc,Nat.add_comm 1]using this
  exact uy ha t ks (i+1) h1 h
theorem oz{ks:List LK}{M:List aA}{a:Addr}{f:LTs ks→Tree}{b off:Nat}{cs:List Value}{x:LTs ks}(rest:List Value)(ha:a=⟨b,off,none⟩)(t:Take M (aw b cs) L')(hv:cs.drop off=dh ks x++rest)(h:Tr ρ0 ρ L (f x) Post):Tr ρ0 ρ L (bm (Sat ρ M) (.g ks) a f) Post:=
 uy ha t ks 0 (rest:=rest) (by simpa using hv) h
end Go.Gl
namespace Go.Proofs.YtfepdmpplahloaaGreat
open Go Go.Gl
variable{ρ0 ρ:FR}{L L':List aA}{Post:Value→List aA→Prop}{T:Tree}
abbrev HL:List LK:=[.int .i64,.int .i64,.int .i64,.bool]
abbrev HT:=LTs HL
structure Hd where
 k:Int
 c:Int
 n:Int
 f:Bool
 deriving DecidableEq
abbrev Hd.t(h:Hd):HT:=(h.k,h.c,h.n,h.f,())
abbrev Hd.cs(h:Hd):List Value:=[.int .i64 h.k,.int .i64 h.c,.int .i64 h.n,.bool h.f]
abbrev lX(h:Hd):Value:= .agg #[.int .i64 h.k,.int .i64 h.c,.int .i64 h.n,.bool h.f]
abbrev IB:RK:= .many [.l (.int .i64),.l .bool]
abbrev HB:RK:= .many [.g HL,.l .bool]
abbrev HE:RK:= .many [.g HL,.l (.int .i64)]
theorem CU(x a b:Int)(s:ay)(hs:eX ρ s 1 ([a,b].map i64)):Spec ρ Tryz.prog 203 [i64 x,.slice s.a s.n s.c] [] RB fun r M=>r=decide (a≤x∧x≤b)∧M=[]:=by
 refine Spec.of (fun Q w h=>F.head.in.calls x s h) fun R=> ?_
 unfold F.head.in
 try simp only[aq,al]
 have hn:s.n=2:=by have:=hs.1;simpa using this.symm
 refine aP (fun n u M=>(fun i:Int=>M=R∧((i=0∧n=1)∨(i=2∧n=0∧¬(a≤x∧x≤b)))) u.1) 1 ⟨rfl,.inl ⟨rfl,rfl⟩⟩ ?_
 rintro n ⟨(i:Int),⟨⟩⟩ M ⟨rfl,hi⟩ X hX
 dsimp only at*
 rcases hi with ⟨rfl,rfl⟩|⟨rfl,rfl,hc⟩
 ·refine aH (by rw[hn];rfl) ?_
  refine bJ hs (by omega) (by omega) fun a0 ha=> ?_
  refine bZ (j:=0) (x:=a) ha hs (by rintro b o rfl;simp[af]) rfl ?_
  refine aj (fun h=> ?_) (fun h=> ?_)
  ·replace h:x≥a:=of_decide_eq_true h
   have e:IntKind.wrap .i64 (0+1)=1:=by decide
   rw[e]
   refine bJ hs (by omega) (by omega) fun a0 ha=> ?_
   refine bZ (j:=1) (x:=b) ha hs (by rintro b o rfl;simp[af]) rfl ?_
   refine aj (fun h2=> ?_) (fun h2=> ?_)
   ·replace h2:x≤b:=of_decide_eq_true h2
    refine aa (x:=decide (a≤x∧x≤b)) ?_ ⟨rfl,rfl⟩ ag aB
    rw[decide_eq_true ⟨h,h2⟩];rfl
   ·replace h2:¬x≤b:=of_decide_eq_false h2
    exact hX 0 _ _ (by omega) ⟨rfl,.inr ⟨by decide,rfl,fun h=>h2 h.2⟩⟩
  ·replace h:¬x≥a:=of_decide_eq_false h
   exact hX 0 _ _ (by omega) ⟨rfl,.inr ⟨by decide,rfl,fun h'=>h h'.1⟩⟩
 ·refine ak (by rw[hn];rfl) ?_
  refine aa (x:=decide (a≤x∧x≤b)) ?_ ⟨rfl,rfl⟩ ag aB
  rw[decide_eq_false hc];rfl
def Sp.cC(h:Hd):Bool:=
 decide (0≤h.n∧h.n≤1023)&&
 (if h.k=1 then decide (1≤h.c∧h.c≤256)else if h.k=2∨h.k=3 then decide (0≤h.c∧h.c≤0)
  else if h.k=4 then decide (1≤h.c∧h.c≤3)&&(h.n==5)&& !h.f else false)
theorem tq(h:Hd):Spec ρ Tryz.prog 171 [lX h] [] RB fun r M=>r=Sp.cC h∧M=[]:=by
 refine Spec.of (fun Q w hh=>F.head.EZ.calls h.t hh) fun R=> ?_
 obtain⟨k,c,n,f⟩:=h
 unfold F.head.EZ
 try simp only[aq,al]
 have call2:∀{ρ':FR} {L:List aA} (x a b:Int) (K:Bool→Tree) (_:∀ρ',Le ρ ρ'→Tr ρ ρ' L (K (decide (a≤x∧x≤b))) (SP RB (fun r M=>r=Sp.cC (Hd.mk k c n f)∧M=[]) R)) (_:Le ρ ρ'),
   Tr ρ ρ' L (nw 3 [.int .i64 a,.int .i64 b] fun b3=>call Tryz.prog 203 [.int .i64 x,.slice (some ⟨b3,0,none⟩) 2 2] RB K) (SP RB (fun r M=>r=Sp.cC (Hd.mk k c n f)∧M=[]) R):=by
  intro ρ' L x a b K hK hle
  refine ax fun b3=> ?_
  refine Rd.bk (n:=2) (m:=1) rfl .here fun ρ'' hle2 hro=> ?_
  refine ae (CU x a b ⟨some ⟨b3,0,none⟩,2,2⟩ hro) .nil ?_
  rintro r M ⟨rfl,rfl⟩
  exact hK ρ'' (hle.trans hle2)
 refine ax fun b1=> ?_
 refine ai (k:= .int .i64) (x:=n) (by rw[af]) tk rfl ?_
 refine call2 n 0 1023 _ (fun ρ' hle=> ?_) (Le.refl _)
 refine aj (fun h1=> ?_) (fun h1=> ?_)
 ·refine aa (x:=Sp.cC (Hd.mk k c n f)) ?_ ⟨rfl,rfl⟩ ag aB
  have:decide (0≤n∧n≤1023)=false:=by rw[←Bool.not_eq_true'];exact h1
  simp only[Sp.cC,this,Bool.false_and];rfl
 ·have h1:decide (0≤n∧n≤1023)=true:=by simpa using h1
  refine ai (k:= .int .i64) (x:=k) (by rw[af]) tk rfl ?_
  refine aj (fun h2=> ?_) (fun h2=> ?_)
  ·replace h2:k=1:=by simpa using h2
   refine ai (k:= .int .i64) (x:=c) (by rw[af]) tk rfl ?_
   refine call2 c 1 256 _ (fun ρ' hle=> ?_) hle
   refine aa (x:=Sp.cC (Hd.mk k c n f)) ?_ ⟨rfl,rfl⟩ ag aB
   simp only[Sp.cC,h1,h2,if_true,Bool.true_and];rfl
  ·replace h2:¬k=1:=by simpa using h2
   refine aj (fun h3=> ?_) (fun h3=> ?_)
   ·refine aH h3 ?_
    replace h3:k=2:=by simpa using h3
    refine ai (k:= .int .i64) (x:=c) (by rw[af]) tk rfl ?_
    refine call2 c 0 0 _ (fun ρ' hle=> ?_) hle
    refine aa (x:=Sp.cC (Hd.mk k c n f)) ?_ ⟨rfl,rfl⟩ ag aB
    simp only[Sp.cC,h1,h3,Bool.true_and];rfl
   ·replace h3:¬k=2:=by simpa using h3
    refine aj (fun h4=> ?_) (fun h4=> ?_)
    ·replace h4:k=3:=by simpa using h4
     refine ai (k:= .int .i64) (x:=c) (by rw[af]) tk rfl ?_
     refine call2 c 0 0 _ (fun ρ' hle=> ?_) hle
     refine aa (x:=Sp.cC (Hd.mk k c n f)) ?_ ⟨rfl,rfl⟩ ag aB
     simp only[Sp.cC,h1,h4,Bool.true_and];rfl
    ·replace h4:¬k=3:=by simpa using h4
     refine aj (fun h5=> ?_) (fun h5=> ?_)
     ·replace h5:k=4:=by simpa using h5
      refine ai (k:= .int .i64) (x:=c) (by rw[af]) tk rfl ?_
      refine call2 c 1 3 _ (fun ρ' hle=> ?_) hle
      have e:Sp.cC (Hd.mk k c n f)=(decide (1≤c∧c≤3)&&(n==5)&& !f):=by simp only[Sp.cC,h1,h5,Bool.true_and];rfl
      refine aj (fun h6=> ?_) (fun h6=> ?_)
      ·refine ai (k:= .int .i64) (x:=n) (by rw[af]) tk rfl ?_
       refine aj (fun h7=> ?_) (fun h7=> ?_)
       ·refine ai (k:= .bool) (x:=f) (by rw[af]) tk rfl ?_
        refine aa (x:=Sp.cC (Hd.mk k c n f)) ?_ ⟨rfl,rfl⟩ ag aB
        rw[e,h6,h7];rfl
       ·refine aa (x:=Sp.cC (Hd.mk k c n f)) ?_ ⟨rfl,rfl⟩ ag aB
        rw[e,h6,h7];rfl
      ·refine aa (x:=Sp.cC (Hd.mk k c n f)) ?_ ⟨rfl,rfl⟩ ag aB
       rw[e,h6];rfl
     ·replace h5:¬k=4:=by simpa using h5
      refine aa (x:=Sp.cC (Hd.mk k c n f)) ?_ ⟨rfl,rfl⟩ ag aB
      simp only[Sp.cC,h1,h2,h3,h4,h5,if_false,or_self,Bool.true_and];rfl
def Sp.dJ(h:Hd):Int:=h.k+16*h.c+65536*h.n+if h.f then 8 else 0
theorem Sp.bU{h:Hd}(hm:Sp.cC h=true):0≤h.n∧h.n≤1023∧1≤h.k∧h.k≤4∧0≤h.c∧h.c≤256:=by
 obtain⟨k,c,n,f⟩:=h
 unfold Sp.cC at hm
 dsimp only at*
 rw[Bool.and_eq_true]at hm
 obtain⟨h1,h2⟩:=hm
 simp only[decide_eq_true_eq]at h1
 split at h2
 ·simp at h2;omega
 ·split at h2
  ·simp at h2;omega
  ·split at h2
   ·simp at h2;omega
   ·cases h2
theorem oT(h:Hd):Spec ρ Tryz.prog 139 [lX h] [] IB fun r M=>r=(if Sp.cC h then(Sp.dJ h,true,())else(0,false,()))∧M=[]:=by
 refine Spec.of (fun Q w hh=>F.head.CV.calls h.t hh) fun R=> ?_
 obtain⟨k,c,n,f⟩:=h
 unfold F.head.CV
 try simp only[aq,al]
 refine ax fun b1=> ?_
 refine bD (x:=(k,c,n,f,())) [] rfl tk rfl ?_
 refine ae (tq (Hd.mk k c n f)) ag ?_
 rintro x M ⟨rfl,rfl⟩
 try simp only[aq,al]
 refine aj (fun h=> ?_) (fun h=> ?_)
 ·have h:¬Sp.cC (Hd.mk k c n f)=true:=by simpa using h
  rw[if_neg h]
  exact aa (x:=(0,false,())) rfl ⟨rfl,rfl⟩ ag aB
 ·have h:Sp.cC (Hd.mk k c n f)=true:=by simpa using h
  rw[if_pos h]
  have hb:=Sp.bU h
  dsimp only at hb
  refine ai (k:= .int .i64) (x:=k) (by rw[af]) tk rfl ?_
  refine ai (k:= .int .i64) (x:=c) (by rw[af]) tk rfl ?_
  refine ai (k:= .int .i64) (x:=n) (by rw[af]) tk rfl ?_
  refine ai (k:= .bool) (x:=f) (by rw[af]) tk rfl ?_
  rw[wrap64 (n:=16*c) (by omega) (by omega),wrap64 (n:=k+16*c) (by omega) (by omega),wrap64 (n:=65536*n) (by omega) (by omega),wrap64 (n:=k+16*c+65536*n) (by omega) (by omega),wrap64 (n:=k+16*c+65536*n+8) (by omega) (by omega)]
  cases f with
  |true=>
   refine aH rfl ?_
   exact aa (x:=(Sp.dJ (Hd.mk k c n true),true,())) rfl ⟨rfl,rfl⟩ ag aB
  |false=>
   refine ak rfl ?_
   refine aa (x:=(Sp.dJ (Hd.mk k c n false),true,())) ?_ ⟨rfl,rfl⟩ ag aB
   simp[Sp.dJ,RK.val,KD.val,LK.val,iY]
theorem Sp.s9{h:Hd}(hm:Sp.cC h=true):Int.tmod (Sp.dJ h) 8=h.k∧(Int.tmod (Int.tdiv (Sp.dJ h) 8) 2==1)=h.f∧Int.tdiv (Int.tmod (Sp.dJ h) 65536) 16=h.c∧Int.tdiv (Sp.dJ h) 65536=h.n∧0≤Sp.dJ h∧Sp.dJ h<2^27:=by
 have hb:=Sp.bU hm
 obtain⟨k,c,n,f⟩:=h
 dsimp only at hb
 have h0:0≤Sp.dJ (Hd.mk k c n f):=by unfold Sp.dJ;dsimp only;split<;>omega
 rw[Int.tmod_eq_emod_of_nonneg h0,Int.tdiv_eq_ediv_of_nonneg h0,Int.tmod_eq_emod_of_nonneg h0,Int.tdiv_eq_ediv_of_nonneg h0,Int.tmod_eq_emod_of_nonneg (by omega),Int.tdiv_eq_ediv_of_nonneg (by omega)]
 unfold Sp.dJ
 dsimp only
 cases f with
 |true=>simp only[if_true,beq_iff_eq];refine⟨?_,?_,?_,?_,?_,?_⟩<;>omega
 |false=>simp only[Bool.false_eq_true,if_false,beq_eq_false_iff_ne];refine⟨?_,?_,?_,?_,?_,?_⟩<;>omega
theorem zR(h:Hd)(hm:Sp.cC h=true):Spec ρ Tryz.prog 104 [i64 (Sp.dJ h)] [] HB fun r M=>r=(h.t,true,())∧M=[]:=by
 refine Spec.of (fun Q w hh=>F.head.EY.calls (Sp.dJ h) hh) fun R=> ?_
 obtain⟨g1,g2,g3,g4,g5,g6⟩:=Sp.s9 hm
 have hb:=Sp.bU hm
 unfold F.head.EY
 try simp only[aq,al]
 refine ax fun b1=> ?_
 have hz:zc Tryz.prog 103=[.int .i64 0,.int .i64 0,.int .i64 0,.bool false]:=by kernel_rfl
 rw[hz]
 refine ak (by simp;omega) ?_
 refine bu (by decide) (bu (by decide) (bu (by decide) (bu (by decide) (bu (by decide) (bu (by decide) ?_)))))
 refine ax fun b2=> ?_
 rw[wrap64 (n:=Int.tdiv (Sp.dJ h) 8) (by rw[Int.tdiv_eq_ediv_of_nonneg g5];omega) (by rw[Int.tdiv_eq_ediv_of_nonneg g5];omega),g1,g2,g3,g4,wrap64 (by omega) (by omega),wrap64 (by omega) (by omega)]
 obtain⟨k,c,n,f⟩:=h
 dsimp only at*
 refine aL (off:=0) rfl tk (by simp) rfl ?_
 refine bD (b:=b2) (x:=(k,c,n,f,())) [] rfl tk rfl ?_
 refine ae (oT (Hd.mk k c n f)) ag ?_
 rintro x M ⟨rfl,rfl⟩
 try simp only[aq,al]
 rw[if_pos hm]
 refine ak rfl (ak (by simp) ?_)
 refine bD (b:=b2) (x:=(k,c,n,f,())) [] rfl tk rfl ?_
 refine aL (b:=b1) (off:=0) rfl tk (by simp) rfl ?_
 refine bD (b:=b1) (x:=(k,c,n,f,())) [] rfl tk rfl ?_
 exact aa (x:=((k,c,n,f,()),true,())) rfl ⟨rfl,rfl⟩ ag aB
end Go.Proofs.YtfepdmpplahloaaGreat
namespace Go.Gl
open Go
variable{ρ0 ρ:FR}{L L':List aA}{Post:Value→List aA→Prop}
theorem eO{α:Type}{g:α→List Value}{m:Nat}(hg:∀x,(g x).length=m):∀{l:List α} {j e:Nat} {x:α},l[j]? =some x→e<m→(l.flatMap g)[j*m+e]? =(g x)[e]?
 |[],_,_,_,h,_=>by simp at h
 |y::l,0,e,x,h,he=>by
  simp at h;subst h
  rw[List.flatMap_cons,Nat.zero_mul,Nat.zero_add,List.getElem?_append_left (by rw[hg];exact he)]
 |y::l,j+1,e,x,h,he=>by
  simp at h
  rw[List.flatMap_cons,List.getElem?_append_right (by rw[hg,Nat.add_mul];omega),hg,show(j+1)*m+e-m=j*m+e by rw[Nat.add_mul];omega]
  exact eO hg h he
theorem gM{α:Type}{g:α→List Value}{m:Nat}(hg:∀x,(g x).length=m)(l:List α):(l.flatMap g).length=l.length*m:=by
 induction l with
 |nil=>simp
 |cons x l ih=>rw[List.flatMap_cons,List.length_append,hg,ih,List.length_cons,Nat.add_mul];omega
theorem uv{s:ay}{m:Nat}{xs:List Value}{a0:Addr}{a:Addr}{j:Nat}(hs:s.a=some a0)(t:Take L (aE s m xs) L')(ha:∀b o,a0=⟨b,o,none⟩→a=⟨b,o+j,none⟩):
  ∀(ks:List LK) (i:Nat) {f:LTs ks→Tree} {x:LTs ks} (_:∀e,e<ks.length→xs[j+i+e]? =(dh ks x)[e]?) (_:Tr ρ0 ρ L (f x) Post),Tr ρ0 ρ L (Bk a i ks f) Post
 |[],_,_,_,_,h=>h
 |k::ks,i,f,x,hv,h=>by
  unfold Bk
  have h0:xs[j+i]? =some (k.val x.1):=by
   have:=hv 0 (by simp)
   simpa[dh]using this
  refine cT (k:=k) (x:=x.1) (j:=j+i) hs t (fun b o hb=>by rw[ha b o hb,af,Nat.add_assoc]) h0 ?_
  refine uv hs t ha ks (i+1) (x:=x.2) (fun e he=> ?_) h
  have:=hv (e+1) (by simpa using he)
  simp only[dh,List.getElem?_cons_succ]at this
  rw[←this];congr 1;omega
theorem Ag{s:ay}{m:Nat}{xs:List Value}{ks:List LK}{a a0:Addr}{f:LTs ks→Tree}{j:Nat}{x:LTs ks}(hs:s.a=some a0)(t:Take L (aE s m xs) L')(ha:∀b o,a0=⟨b,o,none⟩→a=⟨b,o+j,none⟩)
  (hx:∀e,e<ks.length→xs[j+e]? =(dh ks x)[e]?) (h:Tr ρ0 ρ L (f x) Post):Tr ρ0 ρ L (ld (.g ks) a f) Post:=
 uv hs t ha ks 0 (by simpa using hx) h
theorem wD{A:aA}{h:HP}(H:A h):sep A emp h:=⟨h,fun _=>none,fun _=> .inr rfl,by funext b;cases h b<;>rfl,H,fun _=>rfl⟩
theorem Ab{A:aA}{h:HP}(H:sep A emp h):A h:=by
 obtain⟨h1,h2,hd,rfl,ha,he⟩:=H
 have:(fun b=>(h1 b).or (h2 b))=h1:=by funext b;rw[he b];cases h1 b<;>rfl
 rw[this];exact ha
theorem AK{α:Type}{P:α→aA}{l1 l2:List α}{x:α}(h:HP)(H:star ((l1++x::l2).map P) h):star [P x,star ((l1++l2).map P)] h:=by
 have p:((l1++x::l2).map P).Perm (P x::(l1++l2).map P):=(List.perm_middle (l₁:=l1) (l₂:=l2) (a:=x)).map P
 exact dV (fun _ h=>h) (fun _=>wD) (na p H)
theorem kK{α:Type}{P:α→aA}{l1 l2:List α}{x:α}(h:HP)(H:star [P x,star ((l1++l2).map P)] h):star ((l1++x::l2).map P) h:=by
 have p:(P x::(l1++l2).map P).Perm ((l1++x::l2).map P):=((List.perm_middle (l₁:=l1) (l₂:=l2) (a:=x)).map P).symm
 exact na p (dV (fun _ h=>h) (fun _=>Ab) H)
theorem Tr.Dy{α:Type}{P:α→aA}{l1 l2:List α}{x:α}{T:Tree}(t:Take L (star ((l1++x::l2).map P)) L')(h:Tr ρ0 ρ (P x::star ((l1++l2).map P)::L') T Post):Tr ρ0 ρ L T Post:=
 Tr.gh (ι:=Unit) (M:=fun _=>[P x,star ((l1++l2).map P)]) (c:=fun _=>True) t (fun h H=>⟨(),trivial,AK h H⟩) fun _ _=>h
theorem Tr.none{T:Tree}(h:Tr ρ0 ρ (star []::L) T Post):Tr ρ0 ρ L T Post:=fun hle w hw=>by
 refine h hle w ?_
 obtain⟨⟨h0,hl,hh⟩,h3⟩:=hw
 exact⟨⟨h0,⟨fun _=> .none,h0,fun _=> .inl rfl,by funext b;simp,fun _=>rfl,hl⟩,hh⟩,h3⟩
theorem Sat.left{ρ:FR}{A R:List aA}{w:World}(H:Sat ρ (A++R) w):Sat ρ A w:=(H.perm List.perm_append_comm).ug
theorem Rd.app{A R:List aA}{s:ay}{m:Nat}{ys:List Value}(h:Rd ρ A s m ys):Rd ρ (A++R) s m ys:=⟨h.1,fun w hw=>h.2 w hw.left⟩
theorem Rd.Fu{s:ay}{m:Nat}{ys:List Value}{T:Tree}(hr:Rd ρ L s m ys)(h:(s.a= .none→ys=[])→Tr ρ0 ρ L T Post):Tr ρ0 ρ L T Post:=fun hle w hw=>by
 refine h (fun hn=> ?_) hle w hw
 rcases hr.2 w hw with h0|⟨b,off,hb,_⟩
 ·have:=hr.1;rw[h0]at this;simpa using this
 ·rw[hn]at hb;cases hb
end Go.Gl
namespace Go.Proofs.YtfepdmpplahloaaGreat
open Go Go.Gl
variable{ρ0 ρ:FR}{L L':List aA}{Post:Value→List aA→Prop}{T:Tree}
abbrev CL:List LK:=[.int .i64,.slice]
abbrev RS:RK:= .one (.l .slice)
theorem A7(xs:List Int):(xs.map i64).all jX=true:=by simp[jX]
theorem clone{A:List aA}(s:ay)(xs:List Int)(hr:Rd ρ A s 1 (xs.map i64))(hl:xs.length≤2^30):Spec ρ Tryz.prog 64 [.slice s.a s.n s.c] A RS
  fun r M=>r.n=xs.length∧M=aE r 1 (xs.map i64)::A:=by
 refine Spec.of (fun Q w' h=>F.av.wL.calls s h) fun R=> ?_
 unfold F.av.wL
 have hn:s.n=xs.length:=by have:=hr.1;simpa using this.symm
 refine Rd.Fu (hr.app (R:=R)) fun hnil=> ?_
 refine aj (fun h=> ?_) (fun h=> ?_)
 ·have:xs=[]:=by have:=hnil (by simpa using h);simpa using this
  subst this
  refine Tr.cq 1 ?_
  exact aa (x:=(⟨none,0,0⟩:ay)) rfl ⟨rfl,rfl⟩ (aI.app (aE ⟨none,0,0⟩ 1 []::A) R) .refl
 ·refine ax fun b=> ?_
  refine Tr.imp (A':=aE ⟨some ⟨b,0,none⟩,0,0⟩ 1 []) .here (aE.wc rfl) ?_
  refine df (s:=⟨some ⟨b,0,none⟩,0,0⟩) (x:=s) ca .here hr.app (A7 xs) (by dsimp only;omega) (by dsimp only;omega) fun r hrn=> ?_
  exact aa (x:=r) rfl ⟨by rw[hrn,hn];simp,rfl⟩ (aI.app (aE r 1 (xs.map i64)::A) R) .refl
theorem rh{A:List aA}(n:Int)(s:ay)(xs:List Int)(hr:Rd ρ A s 1 (xs.map i64))(hl:xs.length≤2^30):Spec ρ Tryz.prog 118 [.agg #[.int .i64 n,.slice s.a s.n s.c]] A (.one (.g CL))
  fun r M=>∃q:ay,r=(n,q,())∧q.n=xs.length∧M=aE q 1 (xs.map i64)::A:=by
 refine Spec.of (fun Q w' h=>F.class.own.calls (n,s,()) h) fun R=> ?_
 unfold F.class.own
 refine ax fun b1=> ?_
 refine ax fun b2=> ?_
 have hz:zc Tryz.prog 141=[.int .i64 0,.slice none 0 0]:=by kernel_rfl
 rw[hz]
 refine aK (aR [aw b1 [.int .i64 n,.slice s.a s.n s.c]] ag ?_)
 refine ar (k:= .int .i64) (x:=n) (by rw[af]) tk rfl ?_
 refine ar (k:= .slice) (x:=s) (by rw[af]) tk rfl ?_
 refine Tr.perm (L':=A++(aw b2 [.int .i64 0,.slice none 0 0]::aw b1 [.int .i64 n,.slice s.a s.n s.c]::R)) ?_ ?_
 ·exact(List.perm_append_comm (l₁:=[aw b2 [.int .i64 0,.slice none 0 0],aw b1 [.int .i64 n,.slice s.a s.n s.c]]) (l₂:=A)).append_right R |>.trans (by simp)
 refine ae (clone s xs hr hl) (aI.app _ _) ?_
 rintro q M ⟨hq,rfl⟩
 refine Tr.perm (L':=aw b2 [.int .i64 0,.slice none 0 0]::aw b1 [.int .i64 n,.slice s.a s.n s.c]::(aE q 1 (xs.map i64)::A++R)) ?_ ?_
 ·exact((List.perm_append_comm (l₁:=[aw b2 [.int .i64 0,.slice none 0 0],aw b1 [.int .i64 n,.slice s.a s.n s.c]]) (l₂:=aE q 1 (xs.map i64)::A)).append_right R |>.trans (by simp)).symm
 refine aN (M:=[aw b1 [.int .i64 n,.slice s.a s.n s.c]]) (.cons (.skip .here) .nil) ?_
 refine aL (b:=b2) (off:=0) rfl .here (by simp) rfl ?_
 refine bD (b:=b2) (x:=(n,q,())) [] rfl .here rfl ?_
 refine Tr.drop .here (Tr.drop .here ?_)
 exact aa (x:=(n,q,())) rfl ⟨q,rfl,hq,rfl⟩ (aI.app (aE q 1 (xs.map i64)::A) R) .refl
def Sp.BX(n:Int):Int→List Int→Bool
 |_,[]=>true|last,x::l=>if x≤last then false else if x≥n then false else Sp.BX n x l
def Sp.mZ(n:Int)(xs:List Int):Bool:=if n<0 then false else if n>1023 then false else Sp.BX n (-1) xs
theorem xX(n:Int)(s:ay)(xs:List Int)(hs:eX ρ s 1 (xs.map i64))(hl:xs.length≤2^30):Spec ρ Tryz.prog 155 [.agg #[.int .i64 n,.slice s.a s.n s.c]] [] RB
  fun r M=>r=Sp.mZ n xs∧M=[]:=by
 refine Spec.of (fun Q w' h=>F.class.may.calls (n,s,()) h) fun R=> ?_
 unfold F.class.may
 try simp only[aq,al]
 have hn:s.n=xs.length:=by have:=hs.1;simpa using this.symm
 refine ax fun b=> ?_
 refine ai (k:= .int .i64) (x:=n) (by rw[af]) tk rfl ?_
 refine aj (fun h=> ?_) (fun h=> ?_)
 ·refine aa (x:=Sp.mZ n xs) ?_ ⟨rfl,rfl⟩ ag aB
  rw[Sp.mZ,if_pos (of_decide_eq_true h)];rfl
 ·replace h:=of_decide_eq_false h
  refine ai (k:= .int .i64) (x:=n) (by rw[af]) tk rfl ?_
  refine aj (fun h2=> ?_) (fun h2=> ?_)
  ·refine aa (x:=Sp.mZ n xs) ?_ ⟨rfl,rfl⟩ ag aB
   rw[Sp.mZ,if_neg h,if_pos (of_decide_eq_true h2)];rfl
  ·replace h2:=of_decide_eq_false h2
   refine ai (k:= .slice) (x:=s) (by rw[af]) tk rfl ?_
   refine aP (fun m u M=>(fun last i:Int=>M=aw b [.int .i64 n,.slice s.a s.n s.c]::R∧0≤i∧i≤xs.length∧m=xs.length-i.toNat∧Sp.mZ n xs=Sp.BX n last (xs.drop i.toNat)) u.1 u.2.1) xs.length ?_ ?_
   ·refine⟨rfl,by simp,by dsimp only;omega,by simp,?_⟩
    rw[Sp.mZ,if_neg h,if_neg h2];rfl
   ·rintro m ⟨(last:Int),(i:Int),⟨⟩⟩ M ⟨rfl,h0,h1,rfl,hc⟩ X hX
    dsimp only at*
    refine aj (fun h3=> ?_) (fun h3=> ?_)
    ·replace h3:i<(s.n:Int):=of_decide_eq_true h3
     have hi:i.toNat<xs.length:=by omega
     refine bJ hs h0 h3 fun a0 ha=> ?_
     refine bZ (j:=i.toNat) (x:=xs.getD i.toNat 0) ha hs (by rintro b o rfl;simp[af]) (getD_map hi) ?_
     rw[iF 0 hi]at hc
     unfold Sp.BX at hc
     refine aj (fun h4=> ?_) (fun h4=> ?_)
     ·refine aa (x:=Sp.mZ n xs) ?_ ⟨rfl,rfl⟩ ag aB
      rw[hc,if_pos (of_decide_eq_true h4)];rfl
     ·rw[if_neg (of_decide_eq_false h4)]at hc
      refine ai (k:= .int .i64) (x:=n) (by rw[af]) tk rfl ?_
      refine aj (fun h5=> ?_) (fun h5=> ?_)
      ·refine aa (x:=Sp.mZ n xs) ?_ ⟨rfl,rfl⟩ ag aB
       rw[hc,if_pos (of_decide_eq_true h5)];rfl
      ·rw[if_neg (of_decide_eq_false h5)]at hc
       rw[wrap64 (by omega) (by omega)]
       refine hX (xs.length-(i+1).toNat) _ _ (by omega) ⟨rfl,by dsimp only;omega,by dsimp only;omega,rfl,?_⟩
       dsimp only;rw[hc,show(i+1).toNat=i.toNat+1 by omega]
    ·replace h3:¬i<(s.n:Int):=of_decide_eq_false h3
     rw[List.drop_eq_nil_of_le (by omega)]at hc
     refine aa (x:=Sp.mZ n xs) ?_ ⟨rfl,rfl⟩ ag aB
     rw[hc];rfl
abbrev aS:=Int×List Int
def k8(x:aS×ay):aA:=aE x.2 1 (x.1.2.map i64)
def jJ(x:aS×ay):List Value:=[i64 x.1.1,.slice x.2.a x.2.n x.2.c]
def bz(p:Nat)(cs:List aS):aA:=fun h=>∃(i:ay×List (aS×ay)),(i.1.n=cs.length∧i.2.map (·.1)=cs)∧star [aw p [.slice i.1.a i.1.n i.1.c],aE i.1 2 (i.2.flatMap jJ),star (i.2.map k8)] h
theorem bz.op{p:Nat}{cs:List aS}(t:Take L (bz p cs) L')(h:∀(s:ay) (l:List (aS×ay)),s.n=cs.length→l.map (·.1)=cs→Tr ρ0 ρ (aw p [.slice s.a s.n s.c]::aE s 2 (l.flatMap jJ)::star (l.map k8)::L') T Post):Tr ρ0 ρ L T Post:=
 Tr.gh (M:=fun i:ay×List (aS×ay)=>[aw p [.slice i.1.a i.1.n i.1.c],aE i.1 2 (i.2.flatMap jJ),star (i.2.map k8)]) t (fun _ h=>h) fun i hi=>h i.1 i.2 hi.1 hi.2
theorem bz.cl{p:Nat}{cs:List aS}{s:ay}{l:List (aS×ay)}(hs:s.n=cs.length)(hl:l.map (·.1)=cs)(h:HP)(H:star [aw p [.slice s.a s.n s.c],aE s 2 (l.flatMap jJ),star (l.map k8)] h):bz p cs h:=⟨(s,l),⟨hs,hl⟩,H⟩
theorem xB:Spec ρ Tryz.prog 72 [] [] (.one (.l .ptr)) fun r M=>∃b,r=some ⟨b,0,none⟩∧M=[bz b []]:=by
 refine Spec.of (fun Q w' h=>F.class.dc.calls h) fun R=> ?_
 unfold F.class.dc
 try simp only[aq,al]
 refine ax fun b=> ?_
 refine Tr.cq 2 (Tr.none ?_)
 refine Tr.close (M:=[aw b [.slice none 0 0],aE ⟨none,0,0⟩ 2 (([]:List (aS×ay)).flatMap jJ),star (([]:List (aS×ay)).map k8)]) ag (bz.cl (p:=b) (cs:=[]) (s:=⟨none,0,0⟩) (l:=[]) rfl rfl) ?_
 exact aa (x:=some ⟨b,0,none⟩) rfl ⟨b,rfl,rfl⟩ ag aB
theorem lx(p:Nat)(cs:List aS):Spec ρ Tryz.prog 117 [.pointer (some ⟨p,0,none⟩)] [bz p cs] R1 fun r M=>r=(cs.length:Nat)∧M=[bz p cs]:=by
 refine Spec.of (fun Q w' h=>F.class.Table.Classes.calls (some ⟨p,0,none⟩) h) fun R=> ?_
 unfold F.class.Table.Classes
 try simp only[aq,al]
 refine ak rfl (ah (bz.op tk fun s l hs hl=> ?_))
 refine ai (k:= .slice) (x:=s) (by rw[af]) tk rfl ?_
 refine Tr.close ag (bz.cl (p:=p) hs hl) ?_
 rw[hs]
 exact aa (x:=((cs.length:Nat):Int)) rfl ⟨rfl,rfl⟩ ag aB
theorem DO:lU Tryz.prog #[188,188] 2 32=true:=by kernel_rfl
def Sp.dC(cs:List aS)(c:aS):Int×Int×List aS:=if¬Sp.mZ c.1 c.2 then(0,1,cs)else if cs.length≥256 then(0,3,cs)else(cs.length+1,0,cs++[c])
theorem xq(p:Nat)(cs:List aS)(n:Int)(s:ay)(xs:List Int)(hs:eX ρ s 1 (xs.map i64))(hl:xs.length≤2^30):
  Spec ρ Tryz.prog 116 [.pointer (some ⟨p,0,none⟩),.agg #[.int .i64 n,.slice s.a s.n s.c]] [bz p cs] P2
  fun r M=>r=((Sp.dC cs (n,xs)).1,(Sp.dC cs (n,xs)).2.1,())∧M=[bz p (Sp.dC cs (n,xs)).2.2]:=by
 refine Spec.of (fun Q w' h=>F.class.Table.Add.calls (some ⟨p,0,none⟩) (n,s,()) h) fun R=> ?_
 unfold F.class.Table.Add
 try simp only[aq,al]
 refine ax fun b1=> ?_
 refine ak rfl ?_
 refine bD (b:=b1) (x:=(n,s,())) [] rfl tk rfl ?_
 refine ae (xX n s xs hs hl) ag ?_
 rintro x M ⟨rfl,rfl⟩
 try simp only[aq,al]
 refine aj (fun h=> ?_) (fun h=> ?_)
 ·have h:¬Sp.mZ n xs=true:=by simpa using h
  have e:Sp.dC cs (n,xs)=(0,1,cs):=by rw[Sp.dC,if_pos h]
  rw[e]
  exact aa (x:=(0,1,())) rfl ⟨rfl,rfl⟩ ag aB
 ·have h:Sp.mZ n xs=true:=by simpa using h
  refine ah (bz.op tk fun ts l hts hl2=> ?_)
  refine ai (k:= .slice) (x:=ts) (by rw[af]) tk rfl ?_
  refine aj (fun h2=> ?_) (fun h2=> ?_)
  ·replace h2:=of_decide_eq_true h2
   have e:Sp.dC cs (n,xs)=(0,3,cs):=by rw[Sp.dC,if_neg (by simp[h]),if_pos (by omega)]
   rw[e]
   refine Tr.close ag (bz.cl (p:=p) hts hl2) ?_
   exact aa (x:=(0,3,())) rfl ⟨rfl,rfl⟩ ag aB
  ·replace h2:=of_decide_eq_false h2
   have e:Sp.dC cs (n,xs)=((cs.length:Int)+1,0,cs++[(n,xs)]):=by rw[Sp.dC,if_neg (by simp[h]),if_neg (by omega)]
   rw[e]
   refine aK (aR [aw p [.slice ts.a ts.n ts.c],aw b1 [.int .i64 n,.slice s.a s.n s.c]] ag ?_)
   refine ah (ar (k:= .slice) (x:=ts) (by rw[af]) tk rfl ?_)
   refine oz (b:=b1) (x:=(n,s,())) [] rfl tk rfl ?_
   refine ae (rh (A:=[]) n s xs (Rd.ro hs) hl) ag ?_
   rintro x M ⟨q,rfl,hq,rfl⟩
   try simp only[aq,al]
   refine aN ag ?_
   refine ax fun b2=> ?_
   refine aN ag ?_
   refine df (s:=ts) (x:=⟨some ⟨b2,0,none⟩,1,1⟩) (ys:=[.int .i64 n,.slice q.a q.n q.c]) DO tk (Rd.cl tk rfl rfl) rfl (by dsimp only;omega) (by dsimp only;omega) fun r hr=> ?_
   refine ah (aL (b:=p) (off:=0) (by rw[af]) tk (by simp) rfl (ah ?_))
   refine ai (k:= .slice) (b:=p) (off:=0) (x:=r) (by rw[af]) tk rfl ?_
   refine Tr.imp (A:=star (l.map k8)) (A':=star ((l++([]:List (aS×ay))).map k8)) tk (by simp) ?_
   refine Tr.close (A:=star ((l++[((n,xs),q)]).map k8)) (M:=[k8 ((n,xs),q),star ((l++([]:List (aS×ay))).map k8)]) ag (fun h H=>kK h H) ?_
   have hflat:l.flatMap jJ++[.int .i64 n,.slice q.a q.n q.c]=(l++[((n,xs),q)]).flatMap jJ:=by
    simp only[List.flatMap_append,List.flatMap_cons,List.flatMap_nil,jJ,List.append_nil]
   rw[hflat]
   refine Tr.close (M:=[aw p [.slice r.a r.n r.c],aE r 2 ((l++[((n,xs),q)]).flatMap jJ),star ((l++[((n,xs),q)]).map k8)]) ag (bz.cl (p:=p) (cs:=cs++[(n,xs)]) (s:=r) (l:=l++[((n,xs),q)]) (by rw[hr,hts];simp) (by simp[hl2])) ?_
   refine aa (x:=((cs.length:Int)+1,0,())) ?_ ⟨rfl,rfl⟩ ag aB
   rw[hr,hts];simp[RK.val,KD.val,LK.val,iY]
theorem Az(p:Nat)(cs:List aS)(n:Int)(s:ay)(xs:List Int)(hs:eX ρ s 1 (xs.map i64))(hl:xs.length≤2^30):
  Spec ρ Tryz.prog 74 [.pointer (some ⟨p,0,none⟩),i64 n,.slice s.a s.n s.c] [bz p cs] P2
  fun r M=>r=((Sp.dC cs (n,xs)).1,(Sp.dC cs (n,xs)).2.1,())∧M=[bz p (Sp.dC cs (n,xs)).2.2]:=by
 refine Spec.of (fun Q w' h=>F.class.Table.Of.calls (some ⟨p,0,none⟩) n s h) fun R=> ?_
 unfold F.class.Table.Of
 try simp only[aq,al]
 refine ae (xq p cs n s xs hs hl) ag ?_
 rintro x M ⟨rfl,rfl⟩
 try simp only[aq,al]
 exact aa (x:=((Sp.dC cs (n,xs)).1,(Sp.dC cs (n,xs)).2.1,())) rfl ⟨rfl,rfl⟩ ag aB
abbrev CE:RK:= .many [.g CL,.l (.int .i64)]
theorem dG(p:Nat)(cs:List aS)(i:Int)(hi:¬(1≤i∧i≤cs.length)):Spec ρ Tryz.prog 75 [.pointer (some ⟨p,0,none⟩),i64 i] [bz p cs] CE
  fun r M=>r=((0,⟨none,0,0⟩,()),2,())∧M=[bz p cs]:=by
 refine Spec.of (fun Q w' h=>F.class.Table.Class.calls (some ⟨p,0,none⟩) i h) fun R=> ?_
 unfold F.class.Table.Class
 try simp only[aq,al]
 have hz:zc Tryz.prog 141=[.int .i64 0,.slice none 0 0]:=by kernel_rfl
 rw[hz]
 refine ax fun b1=> ?_
 refine aj (fun h=> ?_) (fun h=> ?_)
 ·refine aL (b:=b1) (off:=0) rfl tk (by simp) rfl ?_
  refine bD (b:=b1) (x:=(0,⟨none,0,0⟩,())) [] rfl tk rfl ?_
  exact aa (x:=((0,⟨none,0,0⟩,()),2,())) rfl ⟨rfl,rfl⟩ ag aB
 ·replace h:=of_decide_eq_false h
  refine ae (lx p cs) ag ?_
  rintro x M ⟨rfl,rfl⟩
  try simp only[aq,al]
  refine aH (by simp;omega) ?_
  refine aL (b:=b1) (off:=0) rfl tk (by simp) rfl ?_
  refine bD (b:=b1) (x:=(0,⟨none,0,0⟩,())) [] rfl tk rfl ?_
  exact aa (x:=((0,⟨none,0,0⟩,()),2,())) rfl ⟨rfl,rfl⟩ ag aB
theorem fU(p:Nat)(cs:List aS)(i:Nat)(c:aS)(hc:cs[i]? =some c)(qs:cs.length≤256)(hb:c.2.length≤2^30):Spec ρ Tryz.prog 75 [.pointer (some ⟨p,0,none⟩),i64 (i+1)] [bz p cs] CE
  fun r M=>∃q:ay,r=((c.1,q,()),0,())∧q.n=c.2.length∧M=[bz p cs,aE q 1 (c.2.map i64)]:=by
 have hi:i<cs.length:=by
  rcases Nat.lt_or_ge i cs.length with h|h
  ·exact h
  ·rw[List.getElem?_eq_none h]at hc;cases hc
 refine Spec.of (fun Q w' h=>F.class.Table.Class.calls (some ⟨p,0,none⟩) (i+1) h) fun R=> ?_
 unfold F.class.Table.Class
 try simp only[aq,al]
 have hz:zc Tryz.prog 141=[.int .i64 0,.slice none 0 0]:=by kernel_rfl
 rw[hz]
 refine ax fun b1=> ?_
 refine ak (by simp;omega) ?_
 refine ae (lx p cs) ag ?_
 rintro x M ⟨rfl,rfl⟩
 try simp only[aq,al]
 refine ak (by simp;omega) (ah (bz.op tk fun ts l hts hl2=> ?_))
 refine ai (k:= .slice) (x:=ts) (by rw[af]) tk rfl ?_
 have w1:IntKind.wrap .i64 ((i:Int)+1-1)=i:=by rw[wrap64 (by omega) (by omega)];omega
 rw[w1]
 obtain⟨s,hs⟩:∃s,l[i]? =some (c,s):=by
  have hll:i<l.length:=by have:=congrArg List.length hl2;simp at this;omega
  have:=congrArg (fun l=>l[i]?) hl2
  simp only[List.getElem?_map,hc]at this
  cases hh:l[i]? with
  |none=>rw[hh]at this;cases this
  |some x=>rw[hh]at this;simp at this;exact⟨x.2,by rw[←this]⟩
 refine cn (s:=ts) (xs:=l.flatMap jJ) tk (by omega) (by rw[hts];omega) fun a0 ha=> ?_
 refine Ag (s:=ts) (xs:=l.flatMap jJ) (j:=i*2) (x:=(c.1,s,())) ha tk (by rintro b o rfl;simp[af]) (fun e he=> ?_) ?_
 ·rw[eO (g:=jJ) (m:=2) (fun _=>rfl) hs (by simpa using he)];rfl
 obtain⟨l1,l2,hl12⟩:∃l1 l2,l=l1++(c,s)::l2:=by
  have hll:i<l.length:=by
   rcases Nat.lt_or_ge i l.length with h|h
   ·exact h
   ·rw[List.getElem?_eq_none h]at hs;cases hs
  refine⟨l.take i,l.drop (i+1),?_⟩
  have:l[i]=(c,s):=by rw[List.getElem?_eq_getElem hll]at hs;simpa using hs
  rw[←this,←List.drop_eq_getElem_cons hll,List.take_append_drop]
 subst hl12
 refine Tr.Dy (P:=k8) tk ?_
 refine Tr.fD (s:=s) (m:=1) (xs:=c.2.map i64) .here fun hlen _=> ?_
 refine ae (rh (A:=[k8 (c,s)]) c.1 s c.2 (Rd.sl (L':=[]) .here hlen) hb) ag ?_
 rintro x M ⟨q,rfl,hq,rfl⟩
 try simp only[aq,al]
 refine Tr.close (A:=star ((l1++(c,s)::l2).map k8)) (M:=[k8 (c,s),star ((l1++l2).map k8)]) ag (fun h H=>kK h H) ?_
 refine aL (b:=b1) (off:=0) rfl tk (by simp) rfl ?_
 refine bD (b:=b1) (x:=(c.1,q,())) [] rfl tk rfl ?_
 refine Tr.close ag (bz.cl (p:=p) hts hl2) ?_
 exact aa (x:=((c.1,q,()),0,())) rfl ⟨q,rfl,hq,rfl⟩ ag aB
end Go.Proofs.YtfepdmpplahloaaGreat
