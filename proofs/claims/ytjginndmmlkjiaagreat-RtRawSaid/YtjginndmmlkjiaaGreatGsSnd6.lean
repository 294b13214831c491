import Derived.OrdersHeld
import Derived.StillTail
set_option linter.unusedSimpArgs false
set_option linter.unusedVariables false
namespace Go.Gl
section
open Go
theorem ae{p:Prop}(h:p:=by omega):p:=h
theorem bu{p:Prop}(h:p:=by simp):p:=h
theorem fC{p:Prop}(h:p:=by simp;omega):p:=h
theorem bq{p:Prop}(h:p:=by dsimp only;omega):p:=h
theorem bd{p:Prop}(h:p:=by decide):p:=h
theorem eV{p:Prop}(h:p:=by grind):p:=h
inductive LK|int (k:IntKind)|bool|str|ptr|slice|map|any|adr
structure av where
 a:Option Addr
 n:Nat
 c:Nat
@[reducible] def LT:LK→Type
 | .int _=>Int| .bool=>Bool| .str=>ByteArray| .ptr=>Option Addr| .slice=>av| .map=>Option Nat| .any=>Value| .adr=>Addr
def LK.val:(k:LK)→LT k→Value
 | .int k,n=> .int k n| .bool,b=> .bool b| .str,s=> .string s| .ptr,p=> .pointer p| .slice,s=> .slice s.a s.n s.c
 | .map,r=> .map r| .any,v=>v| .adr,a=> .pointer (some a)
@[reducible] def LTs:List LK→Type
 |[]=>Unit|k::ks=>LT k×LTs ks
def fq:(ks:List LK)→LTs ks→List Value
 |[],_=>[]|k::ks,x=>k.val x.1::fq ks x.2
inductive KD|l (k:LK)|g (ks:List LK)
@[reducible] def KT:KD→Type
 | .l k=>LT k| .g ks=>LTs ks
def KD.val:(k:KD)→KT k→Value
 | .l k,x=>k.val x| .g ks,x=> .agg (fq ks x).toArray
@[reducible] def KTs:List KD→Type
 |[]=>Unit|k::ks=>KT k×KTs ks
def p5:(ks:List KD)→KTs ks→List Value
 |[],_=>[]|k::ks,x=>k.val x.1::p5 ks x.2
inductive RK|one (k:KD)|many (ks:List KD)
@[reducible] def RT:RK→Type
 | .one k=>KT k| .many ks=>KTs ks
def RK.val:(k:RK)→RT k→Value
 | .one k,x=>k.val x| .many ks,x=> .tuple (p5 ks x).toArray
def Md:Value→LK
 | .int k _=> .int k| .bool _=> .bool| .string _=> .str| .pointer _=> .ptr| .slice _ _ _=> .slice| .map _=> .map|_=> .any
def ni(P:Program)(t:TypeId):Option KD:=
 match P.underlying t with
 |some (.struct _)|some (.array _ _)=>match (P.info? t).bind (·.zero)with
  |some (.agg cs)=>some (.g (cs.toList.map Md))
  |_=>none
 |some (.int k)=>some (.l (.int k))
 |some .bool=>some (.l .bool)
 |some .string=>some (.l .str)
 |some (.pointer _)=>some (.l .ptr)
 |some (.slice _)=>some (.l .slice)
 |some (.map _ _)=>some (.l .map)
 |some (.func _ _ _)=>some (.l .any)
 |_=>none
def JM(P:Program):List TypeId→Option (List KD)
 |[]=>some []
 |t::ts=>match ni P t,JM P ts with |some k,some ks=>some (k::ks)|_,_=>none
def Ly(P:Program)(ts:List TypeId):Option RK:=
 match ts with
 |[t]=>(ni P t).map RK.one
 |ts=>(JM P ts).map RK.many
inductive E1|no|va (v:Value)|tt|ff|pa (a:Addr)|op (v:Value)|it (v:Value) (kk kv:KD)
inductive En|e (x:E1)|tup (es:List E1)
def E1.v:E1→Option Value
 | .no=>none| .va v=>some v| .tt=>some (.bool true)| .ff=>some (.bool false)| .pa a=>some (.pointer (some a))| .op v=>some v| .it v _ _=>some v
def E1.vs:List E1→Option (List Value)
 |[]=>some []|x::xs=>match x.v,E1.vs xs with |some v,some vs=>some (v::vs)|_,_=>none
def En.v:En→Option Value
 | .e x=>x.v| .tup es=>(E1.vs es).map fun vs=> .tuple vs.toArray
def LK.en:(k:LK)→LT k→E1
 | .any,v=> .op v| .int k,n=> .va (.int k n)| .bool,b=> .va (.bool b)| .str,s=> .va (.string s)| .ptr,p=> .va (.pointer p)
 | .slice,s=> .va (.slice s.a s.n s.c)| .map,r=> .va (.map r)| .adr,a=> .pa a
def KD.en:(k:KD)→KT k→E1
 | .l k,x=>k.en x| .g ks,x=> .va (.agg (fq ks x).toArray)
def Ft:(ks:List KD)→KTs ks→List E1
 |[],_=>[]|k::ks,x=>k.en x.1::Ft ks x.2
def RK.en:(k:RK)→RT k→En
 | .one k,x=> .e (k.en x)| .many ks,x=> .tup (Ft ks x)
theorem LK.qR(k:LK)(x:LT k):(k.en x).v=some (k.val x):=by cases k<;>rfl
theorem KD.qR(k:KD)(x:KT k):(k.en x).v=some (k.val x):=by cases k<;>first |exact LK.qR _ _|rfl
theorem xN:(ks:List KD)→(x:KTs ks)→E1.vs (Ft ks x)=some (p5 ks x)
 |[],_=>rfl
 |k::ks,x=>by simp only[Ft,E1.vs,KD.qR,xN ks x.2,p5]
theorem RK.qR(k:RK)(x:RT k):(k.en x).v=some (k.val x):=by
 cases k with
 |one k=>exact KD.qR _ _
 |many ks=>simp only[RK.en,En.v,xN,Option.map_some,RK.val]
def E1.of:Value→E1
 | .bool true=> .tt| .bool false=> .ff| .pointer (some a)=> .pa a|v=> .va v
theorem E1.Mm(v:Value):(E1.of v).v=some v:=by unfold E1.of;split<;>rfl
inductive Env|nil|nd (l:Env) (v:En) (r:Env)
def nE:En:= .e .no
noncomputable def Env.getD(env:Env)(i:Nat)(d:En):En:=
 Env.rec (motive:=fun _=>Nat→En) (fun _=>d) (fun _ v _ gl gr i=>bif Nat.beq i 0 then v else bif Nat.beq (Nat.mod i 2) 1 then gl (Nat.div i 2)else gr (Nat.sub (Nat.div i 2) 1)) env i
noncomputable def Env.set(env:Env)(i:Nat)(x:En):Env:=
 Env.rec (motive:=fun _=>Nat→Env) (fun _=> .nil) (fun l v r sl sr i=>bif Nat.beq i 0 then .nd l x r else bif Nat.beq (Nat.mod i 2) 1 then .nd (sl (Nat.div i 2)) v r else .nd l v (sr (Nat.sub (Nat.div i 2) 1))) env i
noncomputable def Env.has(env:Env)(i:Nat):Bool:=
 Env.rec (motive:=fun _=>Nat→Bool) (fun _=>false) (fun _ _ _ gl gr i=>bif Nat.beq i 0 then true else bif Nat.beq (Nat.mod i 2) 1 then gl (Nat.div i 2)else gr (Nat.sub (Nat.div i 2) 1)) env i
def Env.blank:Nat→Nat→Env
 |0,_=> .nil
 |f+1,n=>bif Nat.beq n 0 then .nil else .nd (Env.blank f (Nat.div n 2)) nE (Env.blank f (Nat.div (Nat.sub n 1) 2))
theorem Env.i3(i:Nat):i=0∨(∃k,i=2*k+1)∨∃k,i=2*k+2:=by
 rcases Nat.eq_zero_or_pos i with h|h;·exact .inl h
 ·rcases Nat.mod_two_eq_zero_or_one i with h'|h';·exact .inr (.inr ⟨i/2-1,ae⟩)
  ·exact .inr (.inl ⟨i/2,ae⟩)
theorem Env.b0(k:Nat):Nat.beq (k+1) 0=false:=rfl
theorem Env.o1(k:Nat):Nat.beq (Nat.mod (2*k+1) 2) 1=true:=by show Nat.beq ((2*k+1)%2) 1=true;rw[show(2*k+1)%2=1 by omega];rfl
theorem Env.o2(k:Nat):Nat.div (2*k+1) 2=k:=by show(2*k+1)/2=k;omega
theorem Env.e1(k:Nat):Nat.beq (Nat.mod (2*k+2) 2) 1=false:=by show Nat.beq ((2*k+2)%2) 1=false;rw[show(2*k+2)%2=0 by omega];rfl
theorem Env.e2(k:Nat):Nat.sub (Nat.div (2*k+2) 2) 1=k:=by show(2*k+2)/2-1=k;omega
section
variable(l r:Env)(v x d:En)(k:Nat)
theorem Env.g0:(Env.nd l v r).getD 0 d=v:=rfl
theorem Env.g1:(Env.nd l v r).getD (2*k+1) d=l.getD k d:=by show(bif Nat.beq (2*k+1) 0 then v else bif Nat.beq (Nat.mod (2*k+1) 2) 1 then l.getD (Nat.div (2*k+1) 2) d else r.getD (Nat.sub (Nat.div (2*k+1) 2) 1) d)=_;rw[Env.b0,Env.o1,Env.o2];rfl
theorem Env.g2:(Env.nd l v r).getD (2*k+2) d=r.getD k d:=by show(bif Nat.beq (2*k+1+1) 0 then v else bif Nat.beq (Nat.mod (2*k+2) 2) 1 then l.getD (Nat.div (2*k+2) 2) d else r.getD (Nat.sub (Nat.div (2*k+2) 2) 1) d)=_;rw[Env.b0,Env.e1,Env.e2];rfl
theorem Env.s0:(Env.nd l v r).set 0 x= .nd l x r:=rfl
theorem Env.s1:(Env.nd l v r).set (2*k+1) x= .nd (l.set k x) v r:=by show(bif Nat.beq (2*k+1) 0 then Env.nd l x r else bif Nat.beq (Nat.mod (2*k+1) 2) 1 then .nd (l.set (Nat.div (2*k+1) 2) x) v r else .nd l v (r.set (Nat.sub (Nat.div (2*k+1) 2) 1) x))=_;rw[Env.b0,Env.o1,Env.o2];rfl
theorem Env.s2:(Env.nd l v r).set (2*k+2) x= .nd l v (r.set k x):=by show(bif Nat.beq (2*k+1+1) 0 then Env.nd l x r else bif Nat.beq (Nat.mod (2*k+2) 2) 1 then .nd (l.set (Nat.div (2*k+2) 2) x) v r else .nd l v (r.set (Nat.sub (Nat.div (2*k+2) 2) 1) x))=_;rw[Env.b0,Env.e1,Env.e2];rfl
theorem Env.h0:(Env.nd l v r).has 0=true:=rfl
theorem Env.h1:(Env.nd l v r).has (2*k+1)=l.has k:=by show(bif Nat.beq (2*k+1) 0 then true else bif Nat.beq (Nat.mod (2*k+1) 2) 1 then l.has (Nat.div (2*k+1) 2)else r.has (Nat.sub (Nat.div (2*k+1) 2) 1))=_;rw[Env.b0,Env.o1,Env.o2];rfl
theorem Env.h2:(Env.nd l v r).has (2*k+2)=r.has k:=by show(bif Nat.beq (2*k+1+1) 0 then true else bif Nat.beq (Nat.mod (2*k+2) 2) 1 then l.has (Nat.div (2*k+2) 2)else r.has (Nat.sub (Nat.div (2*k+2) 2) 1))=_;rw[Env.b0,Env.e1,Env.e2];rfl
end
theorem Env.km(env:Env):∀(i j:Nat) (x:En),(env.set i x).has j=env.has j:=by
 induction env with
 |nil=>intro i j x;rfl
 |nd l v r ihl ihr=>
  intro i j x;rcases Env.i3 i with rfl|⟨k,rfl⟩|⟨k,rfl⟩<;>rcases Env.i3 j with rfl|⟨m,rfl⟩|⟨m,rfl⟩<;>
   simp only[Env.s0,Env.s1,Env.s2,Env.h0,Env.h1,Env.h2,ihl,ihr]
theorem Env.jP(env:Env):∀(i j:Nat) (x:En),(env.set i x).getD j nE=if i=j∧env.has i=true then x else env.getD j nE:=by
 induction env with
 |nil=>intro i j x;simp only[show Env.nil.has i=false from rfl,Bool.false_eq_true,and_false,if_false];rfl
 |nd l v r ihl ihr=>
  intro i j x;rcases Env.i3 i with rfl|⟨k,rfl⟩|⟨k,rfl⟩<;>rcases Env.i3 j with rfl|⟨m,rfl⟩|⟨m,rfl⟩<;>
   simp only[Env.s0,Env.s1,Env.s2,Env.g0,Env.g1,Env.g2,Env.h0,Env.h1,Env.h2,ihl,ihr];·simp
  ·rw[if_neg ae]
  ·rw[if_neg ae]
  ·rw[if_neg ae]
  ·by_cases h:k=m;·subst h;simp
   ·rw[if_neg ae,if_neg ae]
  ·rw[if_neg ae]
  ·rw[if_neg ae]
  ·rw[if_neg ae]
  ·by_cases h:k=m;·subst h;simp
   ·rw[if_neg ae,if_neg ae]
theorem Env.mw(env:Env):∀(i:Nat),env.has i=false→env.getD i nE=nE:=by
 induction env with
 |nil=>intro i _;rfl
 |nd l v r ihl ihr=>
  intro i h;rcases Env.i3 i with rfl|⟨k,rfl⟩|⟨k,rfl⟩;·cases h
  ·rw[Env.h1]at h;rw[Env.g1];exact ihl k h
  ·rw[Env.h2]at h;rw[Env.g2];exact ihr k h
theorem Env.Kv{env:Env}{i:Nat}{v:Value}(h:(env.getD i nE).v=some v):env.has i=true:=by
 cases hh:env.has i with
 |true=>rfl
 |false=>rw[Env.mw env i hh]at h;cases h
theorem Env.Da:∀(f n i:Nat),(Env.blank f n).has i=true→i<n:=by
 intro f;induction f with
 |zero=>intro n i h;cases h
 |succ f ih=>
  intro n i h;cases n with
  |zero=>cases h
  |succ n=>
   change(Env.nd (Env.blank f ((n+1)/2)) nE (Env.blank f (n/2))).has i=true at h;rcases Env.i3 i with rfl|⟨k,rfl⟩|⟨k,rfl⟩;·omega
   ·rw[Env.h1]at h;have:=ih _ _ h;omega
   ·rw[Env.h2]at h;have:=ih _ _ h;omega
theorem Env.DQ:∀(f n i:Nat),(Env.blank f n).getD i nE=nE:=by
 intro f;induction f with
 |zero=>intro n i;rfl
 |succ f ih=>
  intro n i;cases n with
  |zero=>rfl
  |succ n=>
   show(Env.nd (Env.blank f ((n+1)/2)) nE (Env.blank f (n/2))).getD i nE=nE;rcases Env.i3 i with rfl|⟨k,rfl⟩|⟨k,rfl⟩;·rfl
   ·rw[Env.g1];exact ih _ _
   ·rw[Env.g2];exact ih _ _
noncomputable def Env.ja:Env→Nat→List E1→Env
 |env,_,[]=>env|env,i,e::es=>Env.ja (env.set i (.e e)) (Nat.succ i) es
theorem Env.F0:∀(es:List E1) (env:Env) (k j:Nat),(env.ja k es).has j=env.has j:=by
 intro es;induction es with
 |nil=>intro env k j;rfl
 |cons e es ih=>intro env k j;show((env.set k (.e e)).ja (k+1) es).has j=_;rw[ih,Env.km]
theorem Env.qx:∀(es:List E1) (env:Env) (k i:Nat) (v:Value),((env.ja k es).getD i nE).v=some v→(∃j e,i=k+j∧es[j]? =some e∧e.v=some v)∨(env.getD i nE).v=some v:=by
 intro es;induction es with
 |nil=>intro env k i v h;exact .inr h
 |cons e es ih=>
  intro env k i v h;rcases ih _ (k+1) i v h with ⟨j,e',h1,h2,h3⟩|h;·exact .inl ⟨j+1,e',ae,by simpa using h2,h3⟩
  ·rw[Env.jP]at h;split at h;·exact .inl ⟨0,e,ae,rfl,h⟩
   ·exact .inr h
noncomputable def ev(env:Env):Operand→En
 | .tmp t=>env.getD t nE| .const v=> .e (E1.of v)| .func f=> .e (.va (.func (.func f) #[] #[]))| .global g=> .e (.pa ⟨g,0,none⟩)
noncomputable def e1(env:Env)(x:Operand):E1:=match ev env x with | .e x=>x| .tup _=> .no
structure Agree(env:Env)(tmps:Array Value):Prop where
 size:∀i,env.has i=true→i<tmps.size
 bM:∀i v,(env.getD i nE).v=some v→tmps.getD i undef=v
theorem Fo{env:Env}{a:Act}(h:Agree env a.tmps){x:Operand}{v:Value}(hv:(ev env x).v=some v):a.eval x=v:=by
 cases x with
 |tmp t=>exact h.bM t v hv
 |const c=>simp only[ev,En.v,E1.Mm,Option.some.injEq]at hv;exact hv
 |global g=>simp only[ev,En.v,E1.v,Option.some.injEq]at hv;exact hv
 |func f=>simp only[ev,En.v,E1.v,Option.some.injEq]at hv;exact hv
theorem mE{env:Env}{a:Act}(h:Agree env a.tmps){x:Operand}{v:Value}(hv:(e1 env x).v=some v):a.eval x=v:=by
 unfold e1 at hv;split at hv;·rename_i y hy;exact Fo h (by rw[hy];exact hv)
 ·cases hv
noncomputable def lM(env:Env)(dst:Option Tmp)(e:En):Env:=
 match dst with |some d=>env.set d e|none=>env
theorem Agree.put{env:Env}{a:Act}(h:Agree env a.tmps){dst:Option Tmp}{e:En}{v:Value}(he:e.v=none∨e.v=some v):
  Agree (lM env dst e) (a.put dst v).tmps:=by
 cases dst with
 |none=>exact h
 |some d=>
  refine⟨fun i hi=>?_,fun i u hu=>?_⟩;·simp only[lM,Env.km]at hi;simpa[Act.put]using h.size i hi
  simp only[lM,Env.jP]at hu;simp only[Act.put,Array.getD_eq_getD_getElem?,Array.getElem?_setIfInBounds];by_cases hd:d=i
  ·subst hd;by_cases hl:env.has d=true
   ·have hs:d<a.tmps.size:=h.size d hl;simp only[hl,and_self,if_true]at hu;rcases he with he|he;·rw[he]at hu;cases hu
    ·rw[he]at hu;cases hu;simp[hs]
   ·rw[if_neg (by simp[hl]),Env.mw env d (by simpa using hl)]at hu;cases hu
  ·simp only[hd,false_and,if_false]at hu;have:=h.bM i u hu;simp[hd];simpa using this
abbrev Tree:=(Value→World→Prop)→World→Prop
def br(b:Bool)(x y:Tree):Tree:=fun Q w=>(b=true→x Q w)∧(b=false→y Q w)
def nn(p:Option Addr)(k:Addr→Tree):Tree:=fun Q w=>∃a,p=some a∧k a Q w
def Mx(v:Value)(k:FuncId→Array Value→Tree):Tree:=fun Q w=>∃f c,v= .func (.func f) #[] c∧k f c Q w
def dE(c:Prop)(k:Tree):Tree:=fun Q w=>c∧k Q w
def bad:Tree:=fun _ _=>False
def ret(v:Value):Tree:=fun Q w=>Q v w
def fa(a:Addr)(off:Nat):Addr:=if off=0 then a else{block:=a.block,off:=a.off+off,spot:=none}
theorem kh(a:Addr)(off:Nat):a.add off=fa a off:=by unfold Addr.add fa;split<;>rfl
def ix(a:Option Addr)(n:Nat)(i:Int)(size:Nat)(k:Addr→Tree):Tree:=fun Q w=>∃b,a=some b∧0≤i∧i<n∧k (fa b (i.toNat*size)) Q w
def Hk(k:LK)(a:Addr)(f:LT k→Tree):Tree:=fun Q w=>∃x,w.cell? a=some (k.val x)∧f x Q w
def JL(a:Addr):(i:Nat)→(ks:List LK)→(LTs ks→Tree)→Tree
 |_,[],f=>f ()
 |i,k::ks,f=>Hk k (fa a i) fun x=>JL a (i+1) ks fun y=>f (x,y)
def ld(k:KD)(a:Addr)(f:KT k→Tree):Tree:=
 match k,f with
 | .l k,f=>Hk k a f
 | .g ks,f=>JL a 0 ks f
def xY(S:World→Prop)(k:LK)(a:Addr)(f:LT k→Tree):Tree:=fun Q w=>∃x,(∀w',S w'→w'.cell? a=some (k.val x))∧f x Q w
def Du(S:World→Prop)(a:Addr):(i:Nat)→(ks:List LK)→(LTs ks→Tree)→Tree
 |_,[],f=>f ()
 |i,k::ks,f=>xY S k (fa a i) fun x=>Du S a (i+1) ks fun y=>f (x,y)
def rb(S:World→Prop)(k:KD)(a:Addr)(f:KT k→Tree):Tree:=
 match k,f with
 | .l k,f=>xY S k a f
 | .g ks,f=>Du S a 0 ks f
def nA:Value→Bool
 | .agg _=>false| .tuple _=>false|_=>true
def D9(a:Addr):Nat→List Value→World→World
 |_,[],w=>w|i,v::vs,w=>D9 a (i+1) vs (w.setCell (fa a i) v)
def st(a:Addr)(vs:List Value)(k:Tree):Tree:=fun Q w=>
 (∀i,i<vs.length→(w.cell? (fa a i)).isSome=true∧w.frozen? (fa a i)=false)∧vs.all nA=true∧k Q (D9 a 0 vs w)
def nw(t:TypeId)(vs:List Value)(k:Nat→Tree):Tree:=fun Q w=>k w.heap.size Q (w.alloc (.cells vs.toArray t))
def KH(k:Nat→Tree):Tree:=fun Q w=>k w.heap.size Q (w.alloc (.map #[] 0))
def call(P:Program)(f:FuncId)(args:List Value)(r:RK)(k:RT r→Tree):Tree:=fun Q w=>
 Calls P f args.toArray w fun e w'=>∃x,e= .returned (r.val x)∧k x Q w'
def lu(P:Program)(v:Value)(args:List Value)(r:RK)(k:RT r→Tree):Tree:=fun Q w=>
 ∃f i c fn,v= .func (.func f) i c∧P.funcs[f]? =some fn∧fn.body.isSome=true∧Calls P f (i++args.toArray++c) w fun e w'=>∃x,e= .returned (r.val x)∧k x Q w'
def jn{α:Type}(k:α→Tree)(f:(α→Tree)→Tree):Tree:=f k
def cM(P:Program)(s:Sem Value)(r:RK)(k:RT r→Tree):Tree:=fun Q w=>
 ∃x w',s.run P w= .ok (r.val x) w'∧k x Q w'
def kg(P:Program)(s:Sem Unit)(k:Tree):Tree:=fun Q w=>
 ∃w',s.run P w= .ok () w'∧k Q w'
def vu(P:Program)(s:Sem Value)(kk kv:KD)(k0:Tree)(k1:KT kk→KT kv→Tree):Tree:=fun Q w=>
 (∃w',s.run P w= .ok (.tuple #[.bool false]) w'∧k0 Q w')∨(∃x y w',s.run P w= .ok (.tuple #[.bool true,kk.val x,kv.val y]) w'∧k1 x y Q w')
def sG(a:Option Addr)(c:Nat)(l h:Int)(size:Nat)(k:av→Tree):Tree:=fun Q w=>
 0≤l∧l≤h∧h≤c∧k ⟨if c=l.toNat then a else a.map fun b=>fa b (l.toNat*size),h.toNat-l.toNat,c-l.toNat⟩ Q w
def lp(ks:List LK)(body:(LTs ks→Tree)→LTs ks→Tree)(s:LTs ks):Tree:=fun Q w=>
 ∀X:LTs ks→World→Prop,(∀s w,body (fun s' _ w'=>X s' w') s Q w→X s w)→X s w
abbrev PT:=(En→Tree)→Tree
def uE:En:= .e (.va undef)
def mb(v:Value):PT:=fun κ=>κ (.e (.va v))
def Mj:LK→Value→E1
 | .any,v=> .op v|_,v=> .va v
def eT(P:Program)(t:TypeId)(v:Value):Option E1:=
 match ni P t with
 |some (.l k)=>some (Mj k v)
 |some (.g _)=>some (.va v)
 |none=>none
def jk(op:BinOp)(k:IntKind)(x y:Int):Int:=
 let a:=BitVec.ofInt k.bits x
 let b:=BitVec.ofInt k.bits y
 k.wrap (match op with | .and=>a&&& b| .or=>a|||b| .xor=>a^^^b|_=>a&&& ~~~b).toNat
def BE(op:BinOp)(k k':IntKind)(a b:Int):Option PT:=
 match op with
 | .shl=>some fun κ=>dE (0≤b) (mb (.int k (k.wrap (a*2^(min b.toNat k.bits)))) κ)
 | .shr=>some fun κ=>dE (0≤b) (mb (.int k (a.fdiv (2^(min b.toNat k.bits)))) κ)
 |op=>
  if k=k' then
   match op with
   | .add=>some (mb (.int k (k.wrap (a+b))))
   | .sub=>some (mb (.int k (k.wrap (a-b))))
   | .mul=>some (mb (.int k (k.wrap (a*b))))
   | .quo=>some fun κ=>dE (b≠0) (mb (.int k (k.wrap (a.tdiv b))) κ)
   | .rem=>some fun κ=>dE (b≠0) (mb (.int k (a.tmod b)) κ)
   | .and=>some (mb (.int k (jk .and k a b)))
   | .or=>some (mb (.int k (jk .or k a b)))
   | .xor=>some (mb (.int k (jk .xor k a b)))
   | .andNot=>some (mb (.int k (jk .andNot k a b)))
   | .eql=>some (mb (.bool (a==b)))
   | .neq=>some (mb (.bool (a != b)))
   | .lss=>some (mb (.bool (decide (a<b))))
   | .leq=>some (mb (.bool (decide (a≤b))))
   | .gtr=>some (mb (.bool (decide (a>b))))
   | .geq=>some (mb (.bool (decide (a≥b))))
   |_=>none
  else none
def xt:E1→Option Bool
 | .tt=>some true| .ff=>some false| .va (.bool b)=>some b|_=>none
def eqFields(P:Program):List Field→List Value→List Value→Option Bool
 |[],_,_=>some true
 |f::fs,xs,ys=>
  if f.name = "_" then none else
  match P.underlying f.type,xs[f.offset]?,ys[f.offset]?,eqFields P fs xs ys with
  |some (.int _),some (.int k a),some (.int k' b),some r=>if k=k' then some ((a==b)&&r)else none
  |some .bool,some (.bool a),some (.bool b),some r=>some ((a==b)&&r)
  |_,_,_,_=>none
def ya(P:Program)(t:TypeId):Bool:=match P.underlying t with |some (.pointer _)=>true|_=>false
def BR(P:Program)(t:TypeId):Bool:=match P.underlying t with |some (.slice _)=>true|_=>false
def yd(P:Program)(t:TypeId):Bool:=match P.underlying t with |some .bool=>true|_=>false
def Kq(P:Program)(op:BinOp)(t:TypeId)(x y:E1):Option PT:=
 match x,y with
 | .va (.int k a),.va (.int k' b)=>BE op k k' a b
 | .pa _,.va (.pointer none)=>if ya P t then match op with
   | .eql=>some fun κ=>κ (.e .ff)| .neq=>some fun κ=>κ (.e .tt)|_=>none
  else none
 | .va (.pointer p),.va (.pointer none)=>if ya P t then match op with
   | .eql=>some (mb (.bool p.isNone))| .neq=>some (mb (.bool (!p.isNone)))|_=>none
  else none
 | .va (.slice p _ _),.va (.slice none _ _)=>if BR P t then match op with
   | .eql=>some (mb (.bool p.isNone))| .neq=>some (mb (.bool (!p.isNone)))|_=>none
  else none
 | .va (.string a),.va (.string b)=>match op with
  | .eql=>some (mb (.bool (a.toList==b.toList)))| .neq=>some (mb (.bool (!(a.toList==b.toList))))|_=>none
 | .va (.agg xs),.va (.agg ys)=>
  if P.eqGuardType P.depth t||P.stoodInHeld t then none else
  match P.underlying t with
  |some (.struct fs)=>match eqFields P fs.toList xs.toList ys.toList,op with
   |some r,.eql=>some (mb (.bool r))|some r,.neq=>some (mb (.bool (!r)))|_,_=>none
  |_=>none
 |x,y=>if yd P t then match op,xt x,xt y with
   | .eql,some a,some b=>some (mb (.bool (a==b)))
   | .neq,some a,some b=>some (mb (.bool (!(a==b))))
   |_,_,_=>none
  else none
noncomputable def ot(env:Env):List Operand→Option (List Value)
 |[]=>some []|x::xs=>match (e1 env x).v,ot env xs with |some v,some vs=>some (v::vs)|_,_=>none
noncomputable def partsOf(env:Env):List (Nat×Operand)→Option (List (Nat×Value))
 |[]=>some []|(i,x)::xs=>match (e1 env x).v,partsOf env xs with |some v,some vs=>some ((i,v)::vs)|_,_=>none
def bZ(P:Program)(t:TypeId):Option Nat:=(P.info? t).map (·.size)
def placesOf(P:Program):List Field→Option (List (Nat×Nat))
 |[]=>some []|f::fs=>match bZ P f.type,placesOf P fs with |some n,some ps=>some ((f.offset,n)::ps)|_,_=>none
def jT(P:Program)(t:TypeId):Option Bool:=(P.underlying t).map fun | .struct _| .array _ _=>true|_=>false
def zc(P:Program)(t:TypeId):List Value:=match (P.info? t).bind (·.zero)with |some z=>z.cells.toList|none=>[]
def rV(place:Nat→Option (Nat×Nat))(cells:List Value):List (Nat×Value)→Option (List Value)
 |[]=>some cells
 |(i,v)::rest=>match place i with
  |none=>none
  |some (off,size)=>
   if v.cells.size≠size||off+v.cells.size>cells.length then none
   else rV place (v.cells.toList.zipIdx.foldl (fun cs (c,j)=>cs.set (off+j) c) cells) rest
def L4(op:Bool)(k:IntKind)(x y:Int):Value:= .int k (if op then(if y>x then y else x)else(if y<x then y else x))
def Fb(op:Bool):Value→List Value→Option Value
 |v,[]=>some v
 | .int k x,.int _ y::r=>Fb op (L4 op k x y) r
 |_,_=>none
def ze(k:IntKind):List Value→Option (List Int)
 |[]=>some []
 | .int k' x::r=>if k=k' then(ze k r).map (x::·)else none
 |_::_=>none
theorem vZ{k:IntKind}:∀{vs:List Value} {l:List Int},ze k vs=some l→∀{i:Nat},i<l.length→vs[i]? =some (.int k (l.getD i 0))
 |[],l,h,i,hi=>by cases h;cases hi
 |v::r,l,h,i,hi=>by
  unfold ze at h;split at h;·rename_i heq;cases heq
  ·rename_i k' x r' heq;cases heq;split at h
   ·rename_i hk;subst hk;cases hr:ze k r with
    |none=>rw[hr]at h;cases h
    |some l'=>
     rw[hr]at h;cases h;cases i with
     |zero=>rfl
     |succ i=>simpa using vZ hr (Nat.lt_of_succ_lt_succ hi)
   ·cases h
  ·cases h
def xT(e:E1):Option Int:=match e with | .va (.int _ j)=>some j|_=>none
noncomputable def LY(env:Env)(lo:Option Operand):Option Int:=match lo with |none=>some 0|some y=>xT (e1 env y)
noncomputable def Mc(env:Env)(hi:Option Operand)(n:Nat):Option Int:=match hi with |none=>some (n:Int)|some y=>xT (e1 env y)
noncomputable def fe(P:Program)(o:Oper)(env:Env):Option PT:=
 match o.op with
 | .move x| .assign x=>some fun κ=>κ (ev env x)
 | .pick c x y=>match e1 env c with
  | .tt=>some fun κ=>κ (ev env x)
  | .ff=>some fun κ=>κ (ev env y)
  | .va (.bool b)=>some fun κ=>br b (κ (ev env x)) (κ (ev env y))
  |_=>none
 | .nilCheck x=>match e1 env x with
  | .pa a=>some fun κ=>κ (.e (.pa a))
  | .va (.pointer p)=>some fun κ=>nn p fun a=>κ (.e (.pa a))
  | .va (.func (.func f) i c)=>some fun κ=>κ (.e (.va (.func (.func f) i c)))
  | .op v=>some fun κ=>Mx v fun _ _=>κ (.e (.op v))
  |_=>none
 | .binOp op t x y _=>Kq P op t (e1 env x) (e1 env y)
 | .unOp op _ x=>match op,e1 env x with
  | .not,.tt=>some fun κ=>κ (.e .ff)
  | .not,.ff=>some fun κ=>κ (.e .tt)
  | .not,.va (.bool b)=>some (mb (.bool !b))
  | .neg,.va (.int k n)=>some (mb (.int k (k.wrap (0-n))))
  |_,_=>none
 | .convert s d x=>match P.underlying s,P.underlying d,e1 env x with
  |some (.int _),some (.int k),.va (.int _ n)=>some (mb (.int k (k.wrap n)))
  |_,_,_=>none
 | .fieldAddr s x f=>match P.underlying s,e1 env x with
  |some (.struct fs),.pa a=>match fs.toList[f]? with
   |some fd=>match bZ P fd.type with
    |some (_+1)=>some fun κ=>κ (.e (.pa (fa a fd.offset)))
    |_=>none
   |none=>none
  |_,_=>none
 | .field t x f=>match P.underlying t,e1 env x with
  |some (.struct fs),.va (.agg cs)=>match fs.toList[f]? with
   |some fd=>match jT P fd.type,bZ P fd.type with
    |some true,some n=>some (mb (.agg ((cs.toList.drop fd.offset).take n).toArray))
    |some false,_=>match cs.toList[fd.offset]? with
     |some v=>match eT P fd.type v with |some e=>some fun κ=>κ (.e e)|none=>none
     |none=>none
    |_,_=>none
   |none=>none
  |_,_=>none
 | .indexAddr t x i=>match P.underlying t,e1 env x,e1 env i with
  |some (.slice e),.va (.slice a n _),.va (.int _ j)=>match bZ P e with
   |some m=>some fun κ=>ix a n j m fun b=>κ (.e (.pa b))
   |none=>none
  |some (.array n e),.pa a,.va (.int _ j)=>match bZ P e with
   |some m=>some fun κ=>ix (some a) n j m fun b=>κ (.e (.pa b))
   |none=>none
  |_,_,_=>none
 | .extract x i=>match ev env x with
  | .tup es=>match E1.vs es,es[i]? with |some _,some e=>some fun κ=>κ (.e e)|_,_=>none
  |_=>none
 | .makeFunc fn first cap=>match fn,ot env first.toList,ot env cap.toList with
  | .func f,some us,some vs=>some (mb (.func (.func f) us.toArray vs.toArray))
  |_,_,_=>none
 | .build t ps=>match P.underlying t,partsOf env ps.toList,(P.info? t).bind (·.zero)with
  |some (.struct fs),some vs,some z=>match placesOf P fs.toList with
   |some pl=>match rV (pl[·]?) z.cells.toList vs with |some cs=>some (mb (.agg cs.toArray))|none=>none
   |none=>none
  |some (.array _ e),some vs,some z=>match bZ P e with
   |some m=>match rV (fun i=>some (i*m,m)) z.cells.toList vs with |some cs=>some (mb (.agg cs.toArray))|none=>none
   |none=>none
  |_,_,_=>none
 | .index t x i=>match P.underlying t,e1 env x,e1 env i with
  |some (.array n e),.va (.agg cs),.va (.int _ j)=>match P.underlying e,jT P e,bZ P e with
   |some (.int k),some false,some 1=>match ze k cs.toList with
    |some l=>if l.length=n then some fun κ=>dE (0≤j∧j<n) (mb (.int k (l.getD j.toNat 0)) κ)else none
    |none=>none
   |_,_,_=>none
  |_,_,_=>none
 | .slice t x lo hi mx=>match mx,P.underlying t,e1 env x with
  |none,some (.slice e),.va (.slice a n c)=>match bZ P e,LY env lo,Mc env hi n with
   |some m,some l,some h=>some fun κ=>sG a c l h m fun r=>κ (.e (.va (.slice r.a r.n r.c)))
   |_,_,_=>none
  |some y,some (.slice e),.va (.slice a n c)=>match hi,bZ P e,LY env lo,Mc env hi n,xT (e1 env y)with
   |some _,some m,some l,some h,some q=>some fun κ=>dE (0≤q∧q≤c) (sG a q.toNat l h m fun r=>κ (.e (.va (.slice r.a r.n r.c))))
   |_,_,_,_,_=>none
  |none,some (.array n e),.pa a=>match lo,hi,bZ P e with
   |none,none,some _=>some (mb (.slice (some a) n n))
   |_,_,_=>none
  |_,_,_=>none
 | .call c=>match c.callee with
  | .builtin .len=>match (c.argTypes.toList[0]?).bind P.underlying,c.args.toList.map (e1 env)with
   |some (.slice _),[.va (.slice _ n _)]=>some (mb (.int .i64 (n:Int)))
   |some .string,[.va (.string s)]=>some (mb (.int .i64 (s.size:Int)))
   |_,_=>none
  | .builtin .cap=>match (c.argTypes.toList[0]?).bind P.underlying,c.args.toList.map (e1 env)with
   |some (.slice _),[.va (.slice _ _ n)]=>some (mb (.int .i64 (n:Int)))
   |_,_=>none
  | .builtin .max=>match ot env c.args.toList with
   |some (v::vs)=>match Fb true v vs with |some r=>some (mb r)|none=>none
   |_=>none
  | .builtin .min=>match ot env c.args.toList with
   |some (v::vs)=>match Fb false v vs with |some r=>some (mb r)|none=>none
   |_=>none
  |_=>none
 |_=>none
def oy(P:Program)(t:TypeId):Bool:=match ni P t,bZ P t with |some (.g ks),some n=>ks.length==n|some (.l _),_=>true|_,_=>false
def eW(P : Program) : Bool := P.funcs.toList.all fun fn => !(fn.name == "runtime.NumGoroutine")
def My(P:Program)(t:TypeId):Option RK:=
 match P.underlying t with
 |some (.tuple ts)=>Ly P ts.toList
 |_=>(ni P t).map RK.one
def yE(P:Program)(f:FuncId)(args:List Value)(κ:En→Tree):Tree:=
 match P.funcs[f]? with
 |some fn=>if fn.body.isSome then match Ly P fn.resultTypes.toList with
   |some rk=>call P f args rk fun r=>κ (rk.en r)
   |none=>bad
  else bad
 |none=>bad
def sE(P:Program)(t:TypeId)(a:Addr)(κ:En→Tree):Tree:=
 if oy P t then match ni P t with |some kd=>ld kd a fun x=>κ (.e (kd.en x))|none=>bad else bad
def BD(e:E1):Option (List Value):=e.v.map fun v=>v.cells.toList
def tx(P:Program)(t:TypeId)(a:Addr)(e:E1)(κ:En→Tree):Tree:=
 match BD e,bZ P t with
 |some vs,some n=>if vs.length=n then st a vs (κ nE)else bad
 |_,_=>bad
noncomputable def lx(P:Program)(o:Oper)(env:Env)(κ:En→Tree):Tree:=
 match o.op with
 | .load t x=>match e1 env x with
  | .pa a=>sE P t a κ
  | .va (.pointer p)=>nn p fun a=>sE P t a κ
  |_=>bad
 | .store t x v=>match e1 env x with
  | .pa a=>tx P t a (e1 env v) κ
  | .va (.pointer p)=>nn p fun a=>tx P t a (e1 env v) κ
  |_=>bad
 | .alloc t=>match (P.info? t).bind (·.zero)with
  |some _=>nw t (zc P t) fun b=>κ (.e (.pa ⟨b,0,none⟩))
  |none=>bad
 | .box t x=>match BD (e1 env x)with
  |some vs=>nw t vs fun b=>κ (.e (.pa ⟨b,0,none⟩))
  |none=>bad
 | .buildSlice t n ps=>match P.underlying t with
  |some (.slice e)=>match bZ P e,(P.info? e).bind (·.zero),partsOf env ps.toList with
   |some m,some z,some vs=>
    if n*m>2^24 then bad else
    match rV (fun i=>some (i*m,m)) ((List.replicate n z.cells.toList).flatten) vs with
    |some cs=>if z.cells.size=m then nw e cs fun b=>κ (.e (.va (.slice (some ⟨b,0,none⟩) n n)))else bad
    |none=>bad
   |_,_,_=>bad
  |_=>bad
 | .makeMap t r=>match r,P.underlying t with
  |none,some (.map _ _)=>KH fun b=>κ (.e (.va (.map (some b))))
  |_,_=>bad
 | .makeSlice t l c=>match (e1 env l).v,(e1 env c).v with
  |some lv,some cv=>cM P (Instr.makeSlice t lv cv) (.one (.l .slice)) fun r=>κ (.e (.va (.slice r.a r.n r.c)))
  |_,_=>bad
 | .lookup t x i ok=>match (e1 env x).v,(e1 env i).v,P.underlying t with
  |some xv,some iv,some (.map _ et)=>match ni P et with
   |some kd=>if ok then cM P (Instr.lookup t xv iv true) (.many [kd,.l .bool]) fun r=>κ (.tup [kd.en r.1,.va (.bool r.2.1)])
    else cM P (Instr.lookup t xv iv false) (.one kd) fun r=>κ (.e (kd.en r))
   |none=>bad
  |_,_,_=>bad
 | .mapUpdate t m k x| .insert t m k x=>match (e1 env m).v,(e1 env k).v,(e1 env x).v with
  |some mv,some kv,some xv=>kg P (Instr.mapUpdate t mv kv xv) (κ nE)
  |_,_,_=>bad
 | .range t x=>match (e1 env x).v,P.underlying t with
  |some xv,some (.map k e)=>match ni P k,ni P e with
   |some kk,some kv=>cM P (Instr.range t xv) (.one (.l .ptr)) fun r=>κ (.e (.it (.pointer r) kk kv))
   |_,_=>bad
  |_,_=>bad
 | .next x str=>match str,e1 env x with
  |false,.it v kk kv=>vu P (Instr.next v false o.type) kk kv (κ (.tup [.ff])) fun k v=>κ (.tup [.tt,kk.en k,kv.en v])
  |_,_=>bad
 | .entry x=>match e1 env x with
  | .it v kk kv=>cM P (Instr.entry v) (.many [kk,kv]) fun r=>κ (.tup [kk.en r.1,kv.en r.2.1])
  |_=>bad
 | .call c=>match ot env c.args.toList with
  |none=>bad
  |some vs=>match c.callee with
   | .value f=>match e1 env f with
    | .va (.func (.func f) i c)=>yE P f (i.toList++vs++c.toList) κ
    | .op v=>match My P o.type with
     |some rk=>lu P v vs rk fun r=>κ (rk.en r)
     |none=>bad
    |_=>bad
   | .builtin .append=>cM P (Builtin.append_ c.argTypes o.type vs.toArray) (.one (.l .slice)) fun r=>κ (.e (.va (.slice r.a r.n r.c)))
   | .builtin .clear=>cM P (Builtin.clear_ c.argTypes o.type vs.toArray) (.many []) fun _=>κ nE
   | .builtin .delete=>cM P (Builtin.delete_ c.argTypes o.type vs.toArray) (.many []) fun _=>κ nE
   | .builtin .copy=>cM P (Builtin.copy_ c.argTypes o.type vs.toArray) (.one (.l (.int .i64))) fun n=>κ (.e (.va (.int .i64 n)))
   |_=>bad
 |_=>bad
noncomputable def qF(P:Program)(o:Oper)(env:Env)(κ:En→Tree):Tree:=
 match fe P o env with
 |some pt=>pt κ
 |none=>lx P o env κ
noncomputable def nK(P:Program)(ops:Array Oper):List Oper→Env→(Env→Tree)→Tree
 |[],env,K=>K env
 |o::rest,env,K=>
  let go (env:Env):Tree:=qF P o env fun e=>nK P ops rest (lM env o.dst e) K
  let skip (env:Env):Tree:=nK P ops rest (lM env o.dst uE) K
  match o.guard with
  |none=>go env
  |some (j,want)=>match (ops.toList[j]?).bind (·.dst)with
   |none=>bad
   |some d=>match env.getD d nE with
    | .e .tt=>if want then go env else skip env
    | .e .ff=>if want then skip env else go env
    | .e (.va (.tuple _))=>skip env
    | .e (.va (.bool b))=>br b (if want then go (env.set d (.e .tt))else skip (env.set d (.e .tt))) (if want then skip (env.set d (.e .ff))else go (env.set d (.e .ff)))
    |_=>bad
inductive HT|nil|go (i:Nat) (b:Bool) (t:HT)|two (x y:HT)|cut (x:HT)
inductive Mode|quiet|tail (n:Nat)|held (bar:Option Nat) (order:HT)
def both(x y:Tree):Tree:=fun Q w=>x Q w∧y Q w
def aZ(S:World→Prop)(t:Tree):Tree:=fun Q w=>S w∧t Q w
def narrow(S:World→Prop)(k:(World→Prop)→Tree):Tree:=fun Q w=>∃S':World→Prop,(∀w',S' w'→S w')∧S' w∧k S' Q w
noncomputable def mS(P:Program)(ops:Array Oper)(S:World→Prop):Bool→HT→Env→(Env→Tree)→Tree
 |_,.nil,env,K=>K env
 |post,.two x y,env,K=>both (mS P ops S post x env K) (mS P ops S post y env K)
 |post,.cut x,env,K=>narrow S fun S'=>mS P ops S' post x env K
 |post,.go i b rest,env,K=>
  match ops.toList[i]? with
  |none=>bad
  |some o=>
   let next (env:Env) (e:En):Tree:=mS P ops S (post||b) rest (lM env o.dst e) K
   let go (env:Env):Tree:=match fe P o env with
    |some pt=>pt (next env)
    |none=>match o.op with
     | .load t x=>if oy P t then match e1 env x,ni P t with
      | .pa a,some kd=>rb S kd a fun r=>next env (.e (kd.en r))
      | .va (.pointer p),some kd=>nn p fun a=>rb S kd a fun r=>next env (.e (kd.en r))
      |_,_=>bad
      else bad
     |_=>lx P o env fun e=>bif post||b then next env e else aZ S (next env e)
   match o.guard with
   |none=>go env
   |some (j,want)=>match (ops.toList[j]?).bind (·.dst)with
    |none=>bad
    |some d=>match env.getD d nE with
     | .e .tt=>if want then go env else next env uE
     | .e .ff=>if want then next env uE else go env
     | .e (.va (.tuple _))=>next env uE
     | .e (.va (.bool b))=>br b (if want then go (env.set d (.e .tt))else next (env.set d (.e .tt)) uE) (if want then next (env.set d (.e .ff)) uE else go (env.set d (.e .ff)))
     |_=>bad
def held(k:(World→Prop)→Tree):Tree:=fun Q w=>∃S:World→Prop,S w∧k S Q w
def cD(t:Tree):Tree:=fun Q w=>t Q {w with drawn:=w.drawn+1}
def E1.JN(k:LK)(e:E1):Option (LT k):=
 match k,e with
 | .int k,.va (.int k' n)=>if k=k' then some n else none
 | .bool,.tt=>some true| .bool,.ff=>some false| .bool,.va (.bool b)=>some b
 | .str,.va (.string s)=>some s
 | .ptr,.pa a=>some (some a)| .ptr,.va (.pointer p)=>some p
 | .slice,.va (.slice a n c)=>some ⟨a,n,c⟩
 | .map,.va (.map r)=>some r
 | .adr,.pa a=>some a
 | .any,.op v=>some v| .any,.va v=>some v
 |_,_=>none
noncomputable def ob(env:Env):(rX:List (Nat×LK))→Option (LTs (rX.map (·.2)))
 |[]=>some ()
 |(t,k)::rX=>match env.getD t nE with
  | .e x=>match x.JN k,ob env rX with |some v,some vs=>some (v,vs)|_,_=>none
  |_=>none
noncomputable def mX:(rX:List (Nat×LK))→LTs (rX.map (·.2))→Env→Env
 |[],_,env=>env
 |(t,k)::rX,s,env=>mX rX s.2 (env.set t (.e (k.en s.1)))
def writes:Code→List Nat
 | .region _ ops _=>ops.toList.filterMap (·.dst)
 | .seq a b| .cond _ a b=>writes a++writes b
 | .block _ c| .loop c| .scope c=>writes c
 |_=>[]
noncomputable def sQ(env:Env):List Nat→Env
 |[]=>env|t::ts=>sQ (env.set t nE) ts
def nB:Code→Option Nat
 | .region id _ _=>some id
 | .seq a b=>match nB a with |some i=>some i|none=>nB b
 | .cond _ a b=>match nB a with |some i=>some i|none=>nB b
 | .block _ c| .loop c| .scope c=>nB c
 |_=>none
structure K3 where
 norm:Env→Tree
 exit:Nat→Env→Tree
 ret:Env→Tree
structure az where
 loop:Nat→List (Nat×LK)
 join:Nat→Option (List (Nat×LK))
 mode:Nat→Mode
def KA(T:az)(c:Code):Option (List (Nat×LK)):=match nB c with |some i=>T.join i|none=>none
def se(T:az)(c:Code):List (Nat×LK):=match nB c with |some i=>T.loop i|none=>[]
noncomputable def den(P:Program)(T:az):Code→Env→K3→Tree
 | .skip,env,K=>K.norm env
 | .region _ ops false,env,K=>nK P ops ops.toList env K.norm
 | .region id ops true,env,K=>match T.mode id with
  | .held _ l=>cD (held fun S=>mS P ops S false l env K.norm)
  |_=>cD (nK P ops ops.toList env K.norm)
 | .seq a b,env,K=>match KA T b with
  |none=>den P T a env {K with norm:=fun env=>den P T b env K}
  |some rX=>jn (fun s=>den P T b (mX rX s (sQ env (writes a))) K) fun X=>den P T a env {K with norm:=fun env'=>match ob env' rX with |some s'=>X s'|none=>bad}
 | .cond c a b,env,K=>match e1 env c with
  | .tt=>den P T a env K
  | .ff=>den P T b env K
  | .va (.bool x)=>br x (den P T a env K) (den P T b env K)
  |_=>bad
 | .block id c,env,K=>den P T c env {K with exit:=fun i env=>if i=id then K.norm env else K.exit i env}
 | .loop c,env,K=>match ob env (se T c)with
  |none=>bad
  |some s=>lp ((se T c).map (·.2)) (fun X s=>den P T c (mX (se T c) s (sQ env (writes c))) {K with norm:=fun env'=>match ob env' (se T c)with |some s'=>X s'|none=>bad}) s
 | .exit i,env,K=>K.exit i env
 | .ret,env,K=>K.ret env
 |_,_,_=>bad
def B5:List Value→Value
 |[v]=>v|vs=> .tuple vs.toArray
noncomputable def sL(P:Program)(env:Env):List ResultVar→List Value→Tree
 |[],vs=>ret (B5 vs)
 | .tmp t::rs,vs=>match (env.getD t nE).v with |some v=>sL P env rs (vs++[v])|none=>bad
 | .cell a t::rs,vs=>if oy P t then match env.getD a nE,ni P t with
   | .e (.pa ad),some kd=>ld kd ad fun x=>sL P env rs (vs++[kd.val x])
   |_,_=>bad
  else bad
noncomputable def Kp(es:List E1)(n:Nat):Env:=(Env.blank 16 n).ja 0 es
noncomputable def Jk(P:Program)(T:az)(fn:Func)(args:List E1):Tree:=
 match fn.body with
 |some c=>den P T c (Kp args fn.ntmps) {norm:=fun env=>sL P env fn.results.toList [],exit:=fun _ _=>bad,ret:=fun env=>sL P env fn.results.toList []}
 |none=>bad
variable{P:Program}{o:Oper}{env:Env}{a:Act}
theorem fE{s:Sem Value}{v:Value}{w w':World}(h:s.run P w= .ok v w'):(do pure (Next.value (←s)):Sem Next).run P w= .ok (.value v) w':=by simp[h]
theorem Hi{s:Sem Unit}{w w':World}(h:s.run P w= .ok () w'):(do s;pure Next.skip:Sem Next).run P w= .ok .skip w':=by simp[h]
theorem run_underlying{t:TypeId}{d:TypeDesc}{w:World}(h:P.underlying t=some d):(underlying t).run P w= .ok d w:=by simp[underlying,h]
theorem run_sizeOf{t:TypeId}{n:Nat}{w:World}(h:bZ P t=some n):(sizeOf t).run P w= .ok n w:=by
 unfold bZ at h;cases hi:P.info? t with
 |none=>simp[hi]at h
 |some i=>simp[hi]at h;simp[sizeOf,typeInfo,hi,h]
theorem ki{t:TypeId}{b:Bool}{w:World}(h:jT P t=some b):(isAgg t).run P w= .ok b w:=by
 unfold jT at h;cases hi:P.underlying t with
 |none=>simp[hi]at h
 |some d=>simp only[hi,Option.map_some,Option.some.injEq]at h;subst h;cases d<;>simp[isAgg,underlying,hi]
theorem jj{t:TypeId}{z:Value}{w:World}(h:(P.info? t).bind (·.zero)=some z):(zeroValue t).run P w= .ok z w:=by
 cases hi:P.info? t with
 |none=>simp[hi]at h
 |some i=>simp[hi]at h;simp[zeroValue,typeInfo,hi,h]
def Good(P:Program)(o:Oper)(a:Act)(pt:PT):Prop:=∀κ Q w,pt κ Q w→∃e v,(e.v=none∨e.v=some v)∧(∀w',(execOp a.eval o).run P w'= .ok (.value v) w')∧κ e Q w
theorem ca{v:Value}(h:∀w',(execOp a.eval o).run P w'= .ok (.value v) w'):Good P o a (mb v):=fun _ _ _ hk=>⟨_,v,.inr rfl,h,hk⟩
theorem jv{e:En}{v:Value}(he:e.v=none∨e.v=some v)(h:∀w',(execOp a.eval o).run P w'= .ok (.value v) w'):Good P o a (fun κ=>κ e):=fun _ _ _ hk=>⟨_,v,he,h,hk⟩
theorem o6{c:Prop}{pt:PT}(h:c→Good P o a pt):Good P o a (fun κ=>dE c (pt κ)):=fun _ _ _ hk=>h hk.1 _ _ _ hk.2
theorem vC{x:Operand}(h:Agree env a.tmps):(ev env x).v=none∨(ev env x).v=some (a.eval x):=by
 cases hv:(ev env x).v with
 |none=>exact .inl rfl
 |some v=>exact .inr (by rw[Fo h hv])
theorem Ao{op:BinOp}{t y t':TypeId}{dst:Option Tmp}{pos:String}{after:Array Edge}{g:Option (Nat×Bool)}{x z:Operand}{k k':IntKind}{n m:Int}{pt:PT}
  (hx:a.eval x= .int k n) (hz:a.eval z= .int k' m) (h:BE op k k' n m=some pt):Good P ⟨dst,.binOp op t x z y,t',pos,after,g⟩ a pt:=by
 have key:∀v,(∀w',(binOp op t (.int k n) (.int k' m)).run P w'= .ok v w')→∀w',(execOp a.eval ⟨dst,.binOp op t x z y,t',pos,after,g⟩).run P w'= .ok (.value v) w':=by
  intro v hv w';have he:∀w,(eqGuard op t x z (.int k n) (.int k' m)).run P w= .ok () w:=by intro w;unfold eqGuard;cases op<;>simp
  simp only[execOp,hx,hz];exact fE (by simp[he,hv])
 unfold BE at h;split at h;·cases h;exact o6 fun hc=>ca (key _ fun w'=>by simp[binOp,Op.shift,Int.not_lt.2 hc])
 ·cases h;exact o6 fun hc=>ca (key _ fun w'=>by simp[binOp,Op.shift,Int.not_lt.2 hc])
 ·split at h
  ·rename_i hk;subst hk;split at h;case _=>cases h;exact ca (key _ fun w'=>by simp[binOp,Op.intArith])
   case _=>cases h;exact ca (key _ fun w'=>by simp[binOp,Op.intArith])
   case _=>cases h;exact ca (key _ fun w'=>by simp[binOp,Op.intArith])
   case _=>cases h;exact o6 fun hc=>ca (key _ fun w'=>by simp[binOp,Op.intDiv,hc])
   case _=>cases h;exact o6 fun hc=>ca (key _ fun w'=>by simp[binOp,Op.intDiv,hc])
   case _=>cases h;exact ca (key _ fun w'=>by simp[binOp,Op.intBits,jk])
   case _=>cases h;exact ca (key _ fun w'=>by simp[binOp,Op.intBits,jk])
   case _=>cases h;exact ca (key _ fun w'=>by simp[binOp,Op.intBits,jk])
   case _=>cases h;exact ca (key _ fun w'=>by simp[binOp,Op.intBits,jk])
   case _=>cases h;exact ca (key _ fun w'=>by simp[binOp,Op.intCmp])
   case _=>cases h;exact ca (key _ fun w'=>by simp[binOp,Op.intCmp])
   case _=>cases h;exact ca (key _ fun w'=>by simp[binOp,Op.intCmp])
   case _=>cases h;exact ca (key _ fun w'=>by simp[binOp,Op.intCmp])
   case _=>cases h;exact ca (key _ fun w'=>by simp[binOp,Op.intCmp])
   case _=>cases h;exact ca (key _ fun w'=>by simp[binOp,Op.intCmp])
   case _=>cases h
  ·cases h
theorem qd{x:E1}{b:Bool}(h:xt x=some b):x.v=some (.bool b):=by unfold xt at h;split at h<;>cases h<;>rfl
theorem xK{P:Program}(d:Nat):∀(fs:List Field) (xs ys:Array Value) (r:Bool) (w:World),eqFields P fs xs.toList ys.toList=some r→
  (forIn (m:=Sem) fs ((none,()):Option Bool×Unit) fun f _=>(do
    if f.name ≠ "_" then
     if !(←Op.equalIn (d+1) f.type (←part f.type xs f.offset) (←part f.type ys f.offset))then
      pure (ForInStep.done (some false,()))
     else pure (ForInStep.yield (none,()))
    else pure (ForInStep.yield (none,())))).run P w= .ok (if r then none else some false,()) w:=by
 intro fs;induction fs with
 |nil=>intro xs ys r w h;simp only[eqFields,Option.some.injEq]at h;subst h;simp
 |cons f fs ih=>
  intro xs ys r w h;unfold eqFields at h;split at h;·cases h
  ·rename_i hn;have hpart:∀(cs:Array Value) v,cs.toList[f.offset]? =some v→jT P f.type=some false→(part f.type cs f.offset).run P w= .ok v w:=by
    intro cs v hv ha;have hv':cs[f.offset]? =some v:=by simpa using hv
    simp[part,ki ha,hv']
   have fin:∀(u v:Value) (b r':Bool),xs.toList[f.offset]? =some u→ys.toList[f.offset]? =some v→jT P f.type=some false→
     (Op.equalIn (d+1) f.type u v).run P w= .ok b w→eqFields P fs xs.toList ys.toList=some r'→r=(b&&r')→
     (forIn (m:=Sem) (f::fs) ((none,()):Option Bool×Unit) fun f _=>(do
      if f.name ≠ "_" then
       if !(←Op.equalIn (d+1) f.type (←part f.type xs f.offset) (←part f.type ys f.offset))then
        pure (ForInStep.done (some false,()))
       else pure (ForInStep.yield (none,()))
      else pure (ForInStep.yield (none,())))).run P w= .ok (if r then none else some false,()) w:=by
    intro u v b r' hx hy ha heq hr hrb;have IH:=ih xs ys r' w hr;simp only[List.forIn_cons,if_pos hn,Sem.run_bind,hpart _ _ hx ha,hpart _ _ hy ha,heq,Result.andThen_ok];cases b with
    |false=>simp[hrb]
    |true=>simp only[Bool.not_true,Bool.false_eq_true,if_false,Sem.run_pure,Result.andThen_ok,hrb,Bool.true_and];exact IH
   split at h
   ·rename_i k k1 x k2 y r' hu hx hy hr;split at h;·rename_i hk;subst hk;cases h;exact fin _ _ _ _ hx hy (by simp[jT,hu]) (by unfold Op.equalIn;simp[run_underlying hu]) hr rfl
    ·cases h
   ·rename_i x y r' hu hx hy hr;cases h;exact fin _ _ _ _ hx hy (by simp[jT,hu]) (by unfold Op.equalIn;simp[run_underlying hu]) hr rfl
   ·cases h
theorem qZ{P:Program}{t:TypeId}{fs:Array Field}{xs ys:Array Value}{r:Bool}(w:World)(hu:P.underlying t=some (.struct fs))(hs:P.stoodInHeld t=false)
  (h:eqFields P fs.toList xs.toList ys.toList=some r):(Op.equal t (.agg xs) (.agg ys)).run P w= .ok r w:=by have hf:=xK 9998 fs.toList xs ys r w h;unfold Op.equal Op.maxDepth Op.equalIn;simp only[Sem.run_bind,run_underlying hu,Result.andThen_ok,run_program,hs,Bool.false_eq_true,if_false];rw[←Array.forIn_toList];rw[hf];cases r<;>simp
theorem tF{op:BinOp}{t y t':TypeId}{dst:Option Tmp}{pos:String}{after:Array Edge}{g:Option (Nat×Bool)}{x z:Operand}{fs:Array Field}{xs ys:Array Value}{r:Bool}
  (hx:a.eval x= .agg xs) (hz:a.eval z= .agg ys) (hu:P.underlying t=some (.struct fs)) (hg:(P.eqGuardType P.depth t||P.stoodInHeld t)=false)
  (h:eqFields P fs.toList xs.toList ys.toList=some r):
  (op= .eql→Good P ⟨dst,.binOp op t x z y,t',pos,after,g⟩ a (mb (.bool r)))∧(op= .neq→Good P ⟨dst,.binOp op t x z y,t',pos,after,g⟩ a (mb (.bool (!r)))):=by
 rw[Bool.or_eq_false_iff]at hg;have he:∀w,(eqGuard op t x z (.agg xs) (.agg ys)).run P w= .ok () w:=by intro w;unfold eqGuard;cases op<;>simp[hg.1]
 constructor;·rintro rfl;refine ca fun w'=>?_;simp only[execOp,hx,hz];exact fE (by simp only[Sem.run_bind,he,Result.andThen_ok,binOp,qZ _ hu hg.2 h,Sem.run_pure])
 ·rintro rfl;refine ca fun w'=>?_;simp only[execOp,hx,hz];exact fE (by simp only[Sem.run_bind,he,Result.andThen_ok,binOp,qZ _ hu hg.2 h,Sem.run_pure])
theorem oR{op:BinOp}{t y t':TypeId}{dst:Option Tmp}{pos:String}{after:Array Edge}{g:Option (Nat×Bool)}{x z:Operand}{u v:Value}{r:Bool}
  (hx:a.eval x=u) (hz:a.eval z=v) (he:∀w,(eqGuard op t x z u v).run P w= .ok () w) (hb:∀w,(binOp op t u v).run P w= .ok (.bool r) w):
  ∀w',(execOp a.eval ⟨dst,.binOp op t x z y,t',pos,after,g⟩).run P w'= .ok (.value (.bool r)) w':=by intro w';simp only[execOp,hx,hz];exact fE (by simp only[Sem.run_bind,he,Result.andThen_ok,hb])
theorem sD{t:TypeId}(h:ya P t=true):∃e,P.underlying t=some (.pointer e):=by
 unfold ya at h;split at h;·rename_i e he;exact⟨e,he⟩
 ·cases h
theorem zm{t:TypeId}(h:BR P t=true):∃e,P.underlying t=some (.slice e):=by
 unfold BR at h;split at h;·rename_i e he;exact⟨e,he⟩
 ·cases h
theorem w6{t:TypeId}(h:yd P t=true):P.underlying t=some .bool:=by
 unfold yd at h;split at h;·assumption
 ·cases h
theorem vd{op:BinOp}{t:TypeId}{x z:Operand}{u v:Value}(h:match u with | .nilIface=>False| .agg _=>False|_=>True)(w:World):(eqGuard op t x z u v).run P w= .ok () w:=by unfold eqGuard;cases u<;>cases op<;>first |exact h.elim|simp
def xu:Value→Prop
 | .nilIface=>False| .agg _=>False| .int _ _=>False| .float _ _=>False| .complex _ _ _=>False| .string _=>False|_=>True
theorem LA{t e:TypeId}{ad:Addr}(he:P.underlying t=some (.pointer e))(w:World):(Op.equal t (.pointer (some ad)) (.pointer none)).run P w= .ok false w:=by unfold Op.equal Op.maxDepth Op.equalIn;simp only[Sem.run_bind,run_underlying he,Result.andThen_ok,Sem.run_pure]
theorem L9{t e:TypeId}{p:Option Addr}(he:P.underlying t=some (.pointer e))(w:World):(Op.equal t (.pointer p) (.pointer none)).run P w= .ok p.isNone w:=by unfold Op.equal Op.maxDepth Op.equalIn;cases p<;>simp only[Sem.run_bind,run_underlying he,Result.andThen_ok,Sem.run_pure,Option.isNone]
theorem Mf{t e:TypeId}{p:Option Addr}{n c n' c':Nat}(he:P.underlying t=some (.slice e))(w:World):(Op.equal t (.slice p n c) (.slice none n' c')).run P w= .ok p.isNone w:=by unfold Op.equal Op.maxDepth Op.equalIn;cases p<;>simp only[Sem.run_bind,run_underlying he,Result.andThen_ok,Sem.run_pure,Option.isNone]
theorem LD{t:TypeId}{p q:Bool}(he:P.underlying t=some .bool)(w:World):(Op.equal t (.bool p) (.bool q)).run P w= .ok (p==q) w:=by unfold Op.equal Op.maxDepth Op.equalIn;simp only[Sem.run_bind,run_underlying he,Result.andThen_ok,Sem.run_pure]
theorem Jl{t:TypeId}{u v:Value}{r:Bool}(hu:xu u)
  (hq:∀w,(Op.equal t u v).run P w= .ok r w) (w:World):(binOp .eql t u v).run P w= .ok (.bool r) w:=by
 have:binOp .eql t u v=(do pure (.bool (←Op.equal t u v))):=by cases u<;>first |exact hu.elim|(cases v<;>rfl)
 rw[this];simp only[Sem.run_bind,hq,Result.andThen_ok,Sem.run_pure]
theorem Ij{t:TypeId}{u v:Value}{r:Bool}(hu:xu u)
  (hq:∀w,(Op.equal t u v).run P w= .ok r w) (w:World):(binOp .neq t u v).run P w= .ok (.bool (!r)) w:=by
 have:binOp .neq t u v=(do pure (.bool (!(←Op.equal t u v)))):=by cases u<;>first |exact hu.elim|(cases v<;>rfl)
 rw[this];simp only[Sem.run_bind,hq,Result.andThen_ok,Sem.run_pure]
theorem oe{op:BinOp}{t y t':TypeId}{dst:Option Tmp}{pos:String}{after:Array Edge}{g:Option (Nat×Bool)}{x z:Operand}{u v:Value}{r:Bool}{eT eF:En}
  (hx:a.eval x=u) (hz:a.eval z=v) (hu:xu u)
  (hq:∀w,(Op.equal t u v).run P w= .ok r w)
  (eT':eT.v=some (.bool r)) (eF':eF.v=some (.bool (!r))):
  (op= .eql→Good P ⟨dst,.binOp op t x z y,t',pos,after,g⟩ a (fun κ=>κ eT))∧(op= .neq→Good P ⟨dst,.binOp op t x z y,t',pos,after,g⟩ a (fun κ=>κ eF)):=by
 have hg:∀w,(eqGuard op t x z u v).run P w= .ok () w:=vd (by cases u<;>first |exact hu.elim|trivial);constructor;·rintro rfl;exact jv (.inr eT') (oR hx hz hg (Jl hu hq))
 ·rintro rfl;exact jv (.inr eF') (oR hx hz hg (Ij hu hq))
theorem El{op:BinOp}{t y t':TypeId}{dst:Option Tmp}{pos:String}{after:Array Edge}{g:Option (Nat×Bool)}{x z:Operand}{pt:PT}(hag:Agree env a.tmps)
  (h:Kq P op t (e1 env x) (e1 env z)=some pt):Good P ⟨dst,.binOp op t x z y,t',pos,after,g⟩ a pt:=by
 unfold Kq at h;have HX:∀v,(e1 env x).v=some v→a.eval x=v:=fun v hv=>mE hag hv;have HZ:∀v,(e1 env z).v=some v→a.eval z=v:=fun v hv=>mE hag hv;generalize e1 env x=ex at h HX;generalize e1 env z=ez at h HZ;split at h;·exact Ao (HX _ rfl) (HZ _ rfl) h
 ·split at h
  ·rename_i ad ht;obtain⟨e,he⟩:=sD ht;have hq:=LA (ad:=ad) he;have G:=oe (P:=P) (op:=op) (y:=y) (t':=t') (dst:=dst) (pos:=pos) (after:=after) (g:=g) (eT:= .e .ff) (eF:= .e .tt) (HX _ rfl) (HZ _ rfl) trivial hq
    rfl rfl;split at h<;>cases h;·exact G.1 rfl
   ·exact G.2 rfl
  ·cases h
 ·split at h
  ·rename_i p ht;obtain⟨e,he⟩:=sD ht;have hq:=L9 (p:=p) he;have G:=oe (P:=P) (op:=op) (y:=y) (t':=t') (dst:=dst) (pos:=pos) (after:=after) (g:=g) (eT:= .e (.va (.bool p.isNone))) (eF:= .e (.va (.bool (!p.isNone)))) (HX _ rfl) (HZ _ rfl) trivial hq
    rfl rfl;split at h<;>cases h;·exact G.1 rfl
   ·exact G.2 rfl
  ·cases h
 ·split at h
  ·rename_i p n c n' c' ht;obtain⟨e,he⟩:=zm ht;have hq:=Mf (p:=p) (n:=n) (c:=c) (n':=n') (c':=c') he;have G:=oe (P:=P) (op:=op) (y:=y) (t':=t') (dst:=dst) (pos:=pos) (after:=after) (g:=g) (eT:= .e (.va (.bool p.isNone))) (eF:= .e (.va (.bool (!p.isNone)))) (HX _ rfl) (HZ _ rfl) trivial hq
    rfl rfl;split at h<;>cases h;·exact G.1 rfl
   ·exact G.2 rfl
  ·cases h
 ·have hg:=vd (P:=P) (op:=op) (t:=t) (x:=x) (z:=z) (u:=a.eval x) (v:=a.eval z) (by rw[HX _ rfl];trivial);rw[HX _ rfl,HZ _ rfl]at hg;split at h<;>cases h;·exact ca (oR (HX _ rfl) (HZ _ rfl) hg fun w=>by simp[binOp,Op.stringOp])
  ·exact ca (oR (HX _ rfl) (HZ _ rfl) hg fun w=>by simp[binOp,Op.stringOp])
 ·split at h;·cases h
  ·rename_i hgd;split at h
   ·rename_i fs hfs;split at h;·rename_i r0 r hr;cases h;exact(tF (HX _ rfl) (HZ _ rfl) hfs (by simpa using hgd) hr).1 rfl
    ·rename_i r0 r hr;cases h;exact(tF (HX _ rfl) (HZ _ rfl) hfs (by simpa using hgd) hr).2 rfl
    ·cases h
   ·cases h
 ·split at h
  ·rename_i ht;have hu:=w6 ht;split at h;·rename_i p q hp hq';cases h;have hq:=LD (p:=p) (q:=q) hu;exact(oe (eF:= .e (.va _)) (HX _ (qd hp)) (HZ _ (qd hq')) trivial hq rfl rfl).1 rfl
   ·rename_i p q hp hq';cases h;have hq:=LD (p:=p) (q:=q) hu;exact(oe (eT:= .e (.va _)) (HX _ (qd hp)) (HZ _ (qd hq')) trivial hq rfl rfl).2 rfl
   ·cases h
  ·cases h
theorem K0{k:LK}{v:Value}:(Mj k v).v=some v:=by unfold Mj;split<;>rfl
theorem Ma{t:TypeId}{v:Value}{e:E1}(h:eT P t v=some e):e.v=some v:=by
 unfold eT at h;split at h<;>cases h;·exact K0
 ·rfl
theorem mI{xs:List Operand}(h:Agree env a.tmps):∀{vs:List Value},ot env xs=some vs→xs.map a.eval=vs:=by
 induction xs with
 |nil=>intro vs hv;cases hv;rfl
 |cons x xs ih=>
  intro vs hv;unfold ot at hv;split at hv;·rename_i v vs' h1 h2;cases hv;simp only[List.map_cons,mE h h1,ih h2]
  ·cases hv
theorem pH{xs:List (Nat×Operand)}(h:Agree env a.tmps):∀{vs:List (Nat×Value)},partsOf env xs=some vs→(xs.map fun x=>(x.1,a.eval x.2))=vs:=by
 induction xs with
 |nil=>intro vs hv;cases hv;rfl
 |cons x xs ih=>
  intro vs hv;unfold partsOf at hv;split at hv;·rename_i v vs' h1 h2;cases hv;simp only[List.map_cons,mE h h1,ih h2]
  ·cases hv
theorem zq{es:List E1}:∀{vs:List Value} {i:Nat} {e:E1},E1.vs es=some vs→es[i]? =some e→∃v,vs[i]? =some v∧e.v=some v:=by
 induction es with
 |nil=>intro vs i e _ h;simp at h
 |cons x xs ih=>
  intro vs i e hv he;unfold E1.vs at hv;split at hv
  ·rename_i v vs' h1 h2;cases hv;cases i with
   |zero=>simp only[List.getElem?_cons_zero,Option.some.injEq]at he;subst he;exact⟨v,rfl,h1⟩
   |succ i=>simpa using ih h2 (by simpa using he)
  ·cases hv
theorem tO{t:TypeId}{cs:Array Value}{off:Nat}{w:World}{v:Value}
  (h:(jT P t=some true∧∃n,bZ P t=some n∧v= .agg ((cs.toList.drop off).take n).toArray)∨(jT P t=some false∧cs.toList[off]? =some v)):
  (part t cs off).run P w= .ok v w:=by
 rcases h with ⟨ha,n,hn,rfl⟩|⟨ha,hv⟩
 ·have he:cs.extract off (off+n)=((cs.toList.drop off).take n).toArray:=by apply Array.ext';simp[Array.toList_extract]
  simp[part,ki ha,run_sizeOf hn,he]
 ·have hv':cs[off]? =some v:=by simpa using hv
  simp[part,ki ha,hv']
theorem uo{place:Nat→Option (Nat×Nat)}:∀{parts:List (Nat×Value)} {cells r:List Value},rV place cells parts=some r→Instr.fill place cells.toArray parts=some r.toArray:=by
 intro parts;induction parts with
 |nil=>intro cells r h;cases h;rfl
 |cons p parts ih=>
  intro cells r h;obtain⟨i,v⟩:=p;unfold rV at h;unfold Instr.fill;split at h;·cases h
  ·rename_i off size hp;simp only[hp];split at h;·cases h
   ·rename_i hc;have key:∀(l:List (Value×Nat)) (cs:List Value),(l.toArray.foldl (fun cs (x:Value×Nat)=>cs.setIfInBounds (off+x.2) x.1) cs.toArray)=(l.foldl (fun cs (x:Value×Nat)=>cs.set (off+x.2) x.1) cs).toArray:=by
     intro l;induction l with
     |nil=>intro cs;simp
     |cons x l ih2=>intro cs;simp only[List.foldl_cons,List.foldl_toArray]at*;rw[List.setIfInBounds_toArray];exact ih2 _
    rw[if_neg (by simpa using hc)];have hz:v.cells.zipIdx=v.cells.toList.zipIdx.toArray:=by apply Array.ext';simp
    rw[hz];exact(congrArg (fun z=>Instr.fill place z parts) (key v.cells.toList.zipIdx cells)).trans (ih h)
theorem yH{fs:List Field}{w:World}:∀{pl:List (Nat×Nat)},placesOf P fs=some pl→(fs.mapM (m:=Sem) fun f=>do pure (f.offset,←sizeOf f.type)).run P w= .ok pl w:=by
 induction fs with
 |nil=>intro pl h;cases h;simp
 |cons f fs ih=>
  intro pl h;unfold placesOf at h;split at h;·rename_i n ps h1 h2;cases h;simp only[List.mapM_cons,Sem.run_bind,run_sizeOf h1,Result.andThen_ok,Sem.run_pure,ih h2]
  ·cases h
theorem Cx{op:Bool}{w:World}:∀{vs:List Value} {v r:Value},Fb op v vs=some r→
  (vs.foldlM (m:=Sem) (if op then Builtin.max2 else Builtin.min2) v).run P w= .ok r w:=by
 intro vs;induction vs with
 |nil=>intro v r h;cases h;simp
 |cons x vs ih=>
  intro v r h;unfold Fb at h;split at h;·rename_i heq;cases heq
  ·rename_i k n k' m rest heq;cases heq;cases op with
   |true=>exact ih h
   |false=>exact ih h
  ·cases h
theorem run_build{t:TypeId}{ps:List (Nat×Value)}{v:Value}{w:World}{z:Value}(hz:(P.info? t).bind (·.zero)=some z)
  (h:(∃fs pl cs,P.underlying t=some (.struct fs)∧placesOf P fs.toList=some pl∧rV (pl[·]?) z.cells.toList ps=some cs∧v= .agg cs.toArray)∨
   (∃n e m cs,P.underlying t=some (.array n e)∧bZ P e=some m∧rV (fun i=>some (i*m,m)) z.cells.toList ps=some cs∧v= .agg cs.toArray)):
  (Instr.build t ps.toArray).run P w= .ok v w:=by
 rcases h with ⟨fs,pl,cs,hu,hp,hf,rfl⟩|⟨n,e,m,cs,hu,hm,hf,rfl⟩
 ·have hf':=uo hf;have hm:=yH (w:=w) hp;unfold Instr.build;simp only[Sem.run_bind,jj hz,run_underlying hu,Result.andThen_ok];rw[←Array.toArray_toList (xs:=fs),List.mapM_toArray];simp only[Sem.run_map,hm,Result.andThen_ok];have hg:(fun x:Nat=>pl.toArray[x]?)=fun x=>pl[x]? :=by simp
  simp only[hg];rw[hf'];rfl
 ·have hf':=uo hf;unfold Instr.build;simp only[Sem.run_bind,jj hz,run_underlying hu,run_sizeOf hm,Result.andThen_ok];rw[hf'];rfl
theorem Eb{t:TypeId}{x:Value}{k:IntKind}{i:Int}{b:Addr}{n m:Nat}{w:World}(hi:0≤i)(hn:i<n)
  (h:(∃e c,P.underlying t=some (.slice e)∧bZ P e=some m∧x= .slice (some b) n c)∨(∃e,P.underlying t=some (.array n e)∧bZ P e=some m∧x= .pointer (some b))):
  (Instr.indexAt t x (.int k i)).run P w= .ok (.pointer (some (fa b (i.toNat*m)))) w:=by
 rcases h with ⟨e,c,hu,hm,rfl⟩|⟨e,hu,hm,rfl⟩;·simp[Instr.indexAt,asIntOf,run_underlying hu,hi,hn,run_sizeOf hm,kh]
 ·simp[Instr.indexAt,asIntOf,run_underlying hu,hi,hn,run_sizeOf hm,kh,Instr.sureAddr]
theorem Js{t e:TypeId}{p:Option Addr}{n c m:Nat}{l h:Int}{lo hi:Option Value}{w:World}(hu:P.underlying t=some (.slice e))(hm:bZ P e=some m)
  (hlo:(lo=none∧l=0)∨∃k,lo=some (.int k l)) (hhi:(hi=none∧h=n)∨∃k,hi=some (.int k h)) (h0:0≤l) (h1:l≤h) (h2:h≤c):
  (Instr.sliceAt t (.slice p n c) lo hi none).run P w= .ok (.slice (if c=l.toNat then p else p.map fun b=>fa b (l.toNat*m)) (h.toNat-l.toNat) (c-l.toNat)) w:=by
 have hh0:0≤h:=by omega
 have hb:(Instr.sliceBounds true n c lo hi none).run P w= .ok (l.toNat,h.toNat,c) w:=by
  unfold Instr.sliceBounds;rcases hlo with ⟨rfl,rfl⟩|⟨k,rfl⟩<;>rcases hhi with ⟨rfl,rfl⟩|⟨k',rfl⟩;·simp
  ·simp[Instr.sliceBound,asIntOf,hh0,h2]
  ·simp[Instr.sliceBound,asIntOf,h0,h1]
  ·simp[Instr.sliceBound,asIntOf,h0,hh0,h2];intro hlt;omega
 have hfun:(fun b:Addr=>b.add (l.toNat*m))=fun b=>fa b (l.toNat*m):=by funext b;exact kh _ _
 simp[Instr.sliceAt,Instr.slice,run_underlying hu,hb,run_sizeOf hm,hfun]
theorem Eh{t e:TypeId}{p:Option Addr}{n c m:Nat}{l h q:Int}{lo:Option Value}{kz kq:IntKind}{w:World}(hu:P.underlying t=some (.slice e))(hm:bZ P e=some m)
  (hlo:(lo=none∧l=0)∨∃k,lo=some (.int k l)) (hq0:0≤q) (hq1:q≤c) (h0:0≤l) (h1:l≤h) (h2:h≤(q.toNat:Nat)):
  (Instr.sliceAt t (.slice p n c) lo (some (.int kz h)) (some (.int kq q))).run P w= .ok (.slice (if q.toNat=l.toNat then p else p.map fun b=>fa b (l.toNat*m)) (h.toNat-l.toNat) (q.toNat-l.toNat)) w:=by
 have hh0:0≤h:=by omega
 have hh1:l≤h.toNat:=by omega
 have hb:(Instr.sliceBounds true n c lo (some (.int kz h)) (some (.int kq q))).run P w= .ok (l.toNat,h.toNat,q.toNat) w:=by
  unfold Instr.sliceBounds;rcases hlo with ⟨rfl,rfl⟩|⟨k,rfl⟩;·simp only[Instr.sliceBound,asIntOf,Sem.run_bind,Sem.run_pure,Result.andThen_ok,hq0,hq1,and_self,if_true,hh0,h2,Int.toNat_zero]
  ·simp only[Instr.sliceBound,asIntOf,Sem.run_bind,Sem.run_pure,Result.andThen_ok,hq0,hq1,and_self,if_true,hh0,h2,h0,hh1]
 have hfun:(fun b:Addr=>b.add (l.toNat*m))=fun b=>fa b (l.toNat*m):=by funext b;exact kh _ _
 simp[Instr.sliceAt,Instr.slice,run_underlying hu,hb,run_sizeOf hm,hfun]
theorem rO{pt:PT}(hag:Agree env a.tmps)(h:fe P o env=some pt):Good P o a pt:=by
 obtain⟨dst,op,type,pos,after,guard⟩:=o;have H1:∀x v,(e1 env x).v=some v→a.eval x=v:=fun x v hv=>mE hag hv;cases op with
 |move x=>
  cases h;rcases vC (x:=x) hag with hv|hv;·exact jv (.inl hv) fun w'=>rfl
  ·exact jv (.inr hv) fun w'=>rfl
 |assign x=>
  cases h;rcases vC (x:=x) hag with hv|hv;·exact jv (.inl hv) fun w'=>rfl
  ·exact jv (.inr hv) fun w'=>rfl
 |pick c x y=>
  unfold fe at h;have hr:∀b,a.eval c= .bool b→∀w',(execOp a.eval ⟨dst,.pick c x y,type,pos,after,guard⟩).run P w'= .ok (.value (if b then a.eval x else a.eval y)) w':=by intro b hb w';simp only[execOp,hb,asBool];cases b<;>simp
  dsimp only at h;split at h<;>cases h;·rename_i hc;have:=hr true (H1 c _ (by rw[hc];rfl));exact jv (vC hag) this
  ·rename_i hc;have:=hr false (H1 c _ (by rw[hc];rfl));exact jv (vC hag) this
  ·rename_i b hc;have hb:=hr b (H1 c _ (by rw[hc];rfl));intro κ Q w hk;cases b with
   |true=>exact⟨ev _ x,a.eval x,vC hag,hb,hk.1 rfl⟩
   |false=>exact⟨ev _ y,a.eval y,vC hag,hb,hk.2 rfl⟩
 |nilCheck x=>
  unfold fe at h;dsimp only at h;split at h<;>cases h;·rename_i ad hx;exact jv (.inr rfl) fun w'=>by simp[execOp,H1 x _ (by rw[hx];rfl)]
  ·rename_i p hx;rintro κ Q w ⟨ad,rfl,hk⟩;exact⟨_,_,.inr rfl,fun w'=>by simp[execOp,H1 x _ (by rw[hx];rfl)],hk⟩
  ·rename_i f i c hx;exact jv (.inr rfl) fun w'=>by simp[execOp,H1 x _ (by rw[hx];rfl)]
  ·rename_i v hx;rintro κ Q w ⟨f,c,rfl,hk⟩;exact⟨.e _,.func _ #[] c,.inr rfl,fun w'=>by simp[execOp,H1 x _ (by rw[hx];rfl)],hk⟩
 |binOp op t x y yt=>exact El hag h
 |unOp op t x=>
  unfold fe at h;dsimp only at h;split at h<;>cases h;·rename_i hx;exact jv (.inr rfl) fun w'=>by simp[execOp,H1 x _ (by rw[hx];rfl),Op.unary]
  ·rename_i hx;exact jv (.inr rfl) fun w'=>by simp[execOp,H1 x _ (by rw[hx];rfl),Op.unary]
  ·rename_i b hx;exact ca fun w'=>by simp[execOp,H1 x _ (by rw[hx];rfl),Op.unary]
  ·rename_i k n hx;exact ca fun w'=>by simp[execOp,H1 x _ (by rw[hx];rfl),Op.unary,Op.intArith]
 |convert s d x=>unfold fe at h;dsimp only at h;split at h<;>cases h;rename_i k0 k k1 n hs hd hx;exact ca fun w'=>by simp[execOp,H1 x _ (by rw[hx];rfl),convert,run_underlying hs,run_underlying hd,Conv.intToInt]
 |fieldAddr s x f=>
  unfold fe at h;dsimp only at h;split at h
  ·rename_i fs ad hs hx;split at h
   ·rename_i fd hfd;split at h<;>cases h;rename_i m hm;have hfd':fs[f]? =some fd:=by simpa using hfd
    exact jv (.inr rfl) fun w'=>by simp[execOp,H1 x _ (by rw[hx];rfl),Instr.fieldAt,run_underlying hs,hfd',Instr.sureAddr,fieldPlace,run_sizeOf hm,kh]
   ·cases h
  ·cases h
 |field t x f=>
  unfold fe at h;dsimp only at h;split at h
  ·rename_i fs cs ht hx;split at h
   ·rename_i fd hfd;have hfd':fs[f]? =some fd:=by simpa using hfd
    split at h;·rename_i n ha hn;cases h;refine ca fun w'=>?_;simp only[execOp,H1 x _ (by rw[hx];rfl),Instr.field];exact fE (by simp only[Sem.run_bind,run_underlying ht,Result.andThen_ok,hfd',asAgg,Sem.run_pure];exact tO (.inl ⟨ha,n,hn,rfl⟩))
    ·rename_i ha;split at h;·rename_i v hv;split at h<;>cases h;rename_i e he;refine jv (.inr (Ma he)) fun w'=>?_;simp only[execOp,H1 x _ (by rw[hx];rfl),Instr.field];exact fE (by simp only[Sem.run_bind,run_underlying ht,Result.andThen_ok,hfd',asAgg,Sem.run_pure];exact tO (.inr ⟨ha,hv⟩))
     ·cases h
    ·cases h
   ·cases h
  ·cases h
 |indexAddr t x i=>
  unfold fe at h;dsimp only at h;split at h;·rename_i e p n c k j ht hx hi;split at h<;>cases h;rename_i m hm;rintro κ Q w ⟨b,rfl,h0,h1,hk⟩;refine⟨_,_,.inr rfl,fun w'=>?_,hk⟩;simp only[execOp,H1 x _ (by rw[hx];rfl),H1 i _ (by rw[hi];rfl)];exact fE (Eb h0 h1 (.inl ⟨e,c,ht,hm,rfl⟩))
  ·rename_i n e ad k j ht hx hi;split at h<;>cases h;rename_i m hm;rintro κ Q w ⟨b,hb,h0,h1,hk⟩;cases hb;refine⟨_,_,.inr rfl,fun w'=>?_,hk⟩;simp only[execOp,H1 x _ (by rw[hx];rfl),H1 i _ (by rw[hi];rfl)];exact fE (Eb h0 h1 (.inr ⟨e,ht,hm,rfl⟩))
  ·cases h
 |extract x i=>
  unfold fe at h;dsimp only at h;split at h;·rename_i es hx;split at h<;>cases h;rename_i vs e hvs he;obtain⟨v,hv,hev⟩:=zq hvs he;have hx':a.eval x= .tuple vs.toArray:=Fo hag (by rw[hx];simp[En.v,hvs]);exact jv (.inr hev) fun w'=>by simp[execOp,hx',Instr.extract,hv]
  ·cases h
 |makeFunc fn first cap=>
  unfold fe at h;dsimp only at h;split at h<;>cases h;rename_i f us vs h1 h2;have hf:=mI hag h1;have hc:=mI hag h2;have e1:first.map a.eval=us.toArray:=by apply Array.ext';simpa using hf
  have e2:cap.map a.eval=vs.toArray:=by apply Array.ext';simpa using hc
  exact ca fun w'=>by simp[execOp,e1,e2,Instr.makeFunc]
 |build t ps=>
  unfold fe at h;dsimp only at h;split at h
  ·rename_i fs vs z ht hps hz;split at h
   ·rename_i pl hpl;split at h<;>cases h;rename_i cs jb;refine ca fun w'=>?_;have hp:=pH hag hps;have:(ps.map fun(x:Nat×Operand)=>(x.1,a.eval x.2))=vs.toArray:=by apply Array.ext';simp[←hp]
    exact fE (by rw[show(ps.map fun(i,x)=>(i,a.eval x))=vs.toArray from this];exact run_build hz (.inl ⟨fs,pl,cs,ht,hpl,jb,rfl⟩))
   ·cases h
  ·rename_i n e vs z ht hps hz;split at h
   ·rename_i m hm;split at h<;>cases h;rename_i cs jb;refine ca fun w'=>?_;have hp:=pH hag hps;have:(ps.map fun(x:Nat×Operand)=>(x.1,a.eval x.2))=vs.toArray:=by apply Array.ext';simp[←hp]
    exact fE (by rw[show(ps.map fun(i,x)=>(i,a.eval x))=vs.toArray from this];exact run_build hz (.inr ⟨n,e,m,cs,ht,hm,jb,rfl⟩))
   ·cases h
  ·cases h
 |index t x i=>
  unfold fe at h;dsimp only at h;split at h
  ·rename_i n e cs k j ht hx hi;split at h
   ·rename_i k' hu ha hm;split at h
    ·rename_i l hl;split at h
     ·cases h;rintro κ Q w ⟨⟨h0,h1⟩,hk⟩;have hlt:j.toNat<l.length:=by omega
      refine⟨_,_,.inr rfl,fun w'=>?_,hk⟩;simp only[execOp,H1 x _ (by rw[hx];rfl),H1 i _ (by rw[hi];rfl)];apply fE;simp only[Instr.index,asIntOf,Sem.run_bind,Sem.run_pure,run_underlying ht,Result.andThen_ok,h0,h1,and_self,if_true,run_sizeOf hm];exact tO (.inr ⟨ha,by rw[Nat.mul_one];exact vZ hl hlt⟩)
     ·cases h
    ·cases h
   ·cases h
  ·cases h
 |slice t x lo hi mx=>
  unfold fe at h;dsimp only at h;split at h
  ·rename_i e p n c ht hx;split at h<;>cases h;rename_i m l hh hm hl hhh;rintro κ Q w ⟨h0,h1,h2,hk⟩;refine⟨_,_,.inr rfl,fun w'=>?_,hk⟩;simp only[execOp,H1 x _ (by rw[hx];rfl)];refine fE (Js ht hm ?_ ?_ h0 h1 h2)
   ·unfold LY xT at hl;split at hl;·cases hl;exact .inl ⟨rfl,rfl⟩
    ·rename_i y;split at hl<;>cases hl;rename_i k hy;exact .inr ⟨k,by simp[H1 y _ (by rw[hy];rfl)]⟩
   ·unfold Mc xT at hhh;split at hhh;·cases hhh;exact .inl ⟨rfl,rfl⟩
    ·rename_i y;split at hhh<;>cases hhh;rename_i k hy;exact .inr ⟨k,by simp[H1 y _ (by rw[hy];rfl)]⟩
  ·rename_i y e p n c ht hx;split at h<;>cases h;rename_i z m l hh q hm hl hq hhh;rintro κ Q w ⟨⟨hq0,hq1⟩,h0,h1,h2,hk⟩;refine⟨_,_,.inr rfl,fun w'=>?_,hk⟩;simp only[execOp,H1 x _ (by rw[hx];rfl),Option.map_some];unfold xT at hq;split at hq<;>cases hq;rename_i kq hy;rw[H1 y _ (by rw[hy];rfl)];have hhh':xT _=some hh:=hhh;unfold xT at hhh';split at hhh'<;>cases hhh';rename_i kz hz;rw[H1 z _ (by rw[hz];rfl)];refine fE (Eh ht hm ?_ hq0 hq1 h0 h1 h2);unfold LY xT at hl;split at hl;·cases hl;exact .inl ⟨rfl,rfl⟩
   ·split at hl<;>cases hl;rename_i k hy';exact .inr ⟨k,by simp[H1 _ _ (by rw[hy'];rfl)]⟩
  ·rename_i n e ad ht hx;split at h<;>cases h;rename_i m hm;refine ca fun w'=>?_;simp only[execOp,H1 x _ (by rw[hx];rfl),Option.map_none];apply fE;have hb:(Instr.sliceBounds false n n none none none).run P w'= .ok (0,n,n) w':=by unfold Instr.sliceBounds;simp
   have hf:ad.add 0=ad:=by rfl
   simp[Instr.sliceAt,run_underlying ht,hb,run_sizeOf hm,Instr.sureAddr,hf]
  ·cases h
 |call c=>
  obtain⟨callee,args,ts⟩:=c;unfold fe at h;dsimp only at h;split at h
  ·split at h<;>cases h
   ·rename_i e p n c' ht hargs;have ha:args.toList.map a.eval=[.slice p n c']:=by
     cases hl:args.toList with
     |nil=>simp[hl]at hargs
     |cons x xs=>
      cases xs with
      |nil=>simp[hl]at hargs;simp[H1 x _ (by rw[hargs];rfl)]
      |cons y ys=>simp[hl]at hargs
    have ha':args.map a.eval= #[.slice p n c']:=by apply Array.ext';simpa using ha
    refine ca fun w'=>?_;have ht0:∃t0,ts[0]? =some t0∧P.underlying t0=some (.slice e):=by
     cases h0:ts.toList[0]? with
     |none=>rw[h0]at ht;simp at ht
     |some t0=>exact⟨t0,by simpa using h0,by rw[h0]at ht;simpa using ht⟩
    obtain⟨t0,ht1,ht2⟩:=ht0;simp[execOp,resolve,ha',invoke,builtin,Builtin.len_,ht1,run_underlying ht2,goInt]
   ·rename_i s ht hargs;have ha:args.toList.map a.eval=[.string s]:=by
     cases hl:args.toList with
     |nil=>simp[hl]at hargs
     |cons x xs=>
      cases xs with
      |nil=>simp[hl]at hargs;simp[H1 x _ (by rw[hargs];rfl)]
      |cons y ys=>simp[hl]at hargs
    have ha':args.map a.eval= #[.string s]:=by apply Array.ext';simpa using ha
    refine ca fun w'=>?_;have ht0:∃t0,ts[0]? =some t0∧P.underlying t0=some .string:=by
     cases h0:ts.toList[0]? with
     |none=>rw[h0]at ht;simp at ht
     |some t0=>exact⟨t0,by simpa using h0,by rw[h0]at ht;simpa using ht⟩
    obtain⟨t0,ht1,ht2⟩:=ht0;simp[execOp,resolve,ha',invoke,builtin,Builtin.len_,ht1,run_underlying ht2,goInt]
  ·split at h<;>cases h;rename_i e p c' n ht hargs;have ha:args.toList.map a.eval=[.slice p c' n]:=by
    cases hl:args.toList with
    |nil=>simp[hl]at hargs
    |cons x xs=>
     cases xs with
     |nil=>simp[hl]at hargs;simp[H1 x _ (by rw[hargs];rfl)]
     |cons y ys=>simp[hl]at hargs
   have ha':args.map a.eval= #[.slice p c' n]:=by apply Array.ext';simpa using ha
   refine ca fun w'=>?_;have ht0:∃t0,ts[0]? =some t0∧P.underlying t0=some (.slice e):=by
    cases h0:ts.toList[0]? with
    |none=>rw[h0]at ht;simp at ht
    |some t0=>exact⟨t0,by simpa using h0,by rw[h0]at ht;simpa using ht⟩
   obtain⟨t0,ht1,ht2⟩:=ht0;simp[execOp,resolve,ha',invoke,builtin,Builtin.cap_,ht1,run_underlying ht2,goInt]
  ·split at h
   ·rename_i v vs hv;split at h<;>cases h;rename_i r hr;have ha:=mI hag hv;have ha':args.map a.eval=(v::vs).toArray:=by apply Array.ext';simpa using ha
    refine ca fun w'=>?_;have:=Cx (P:=P) (w:=w') hr;simp only[if_true]at this;simp[execOp,resolve,ha',invoke,builtin,Builtin.max_,this]
   ·cases h
  ·split at h
   ·rename_i v vs hv;split at h<;>cases h;rename_i r hr;have ha:=mI hag hv;have ha':args.map a.eval=(v::vs).toArray:=by apply Array.ext';simpa using ha
    refine ca fun w'=>?_;have:=Cx (P:=P) (w:=w') hr;simp only[Bool.false_eq_true,if_false]at this;simp[execOp,resolve,ha',invoke,builtin,Builtin.min_,this]
   ·cases h
  ·cases h
 |_=>cases h
def jN(P:Program)(o:Oper)(a:Act)(κ:En→Tree)(Q:Value→World→Prop)(w:World):Prop:=
 ∀(next:Act→World→Prop) (R:Exit→Act→World→Prop),(∀e v w',(e.v=none∨e.v=some v)→κ e Q w'→next (a.put o.dst v) w')→o.wp P a w next R
theorem jN.value{κ:En→Tree}{Q:Value→World→Prop}{w w':World}{v:Value}{e:En}(h:(execOp a.eval o).run P w= .ok (.value v) w')(he:e.v=none∨e.v=some v)(hk:κ e Q w'):
  jN P o a κ Q w:=by intro next R hn;unfold Oper.wp;rw[h];exact hn e v _ he hk
theorem jN.skip{κ:En→Tree}{Q:Value→World→Prop}{w w':World}(h:(execOp a.eval o).run P w= .ok .skip w')(hk:κ nE Q w'):
  jN P o a κ Q w:=by intro next R hn;unfold Oper.wp;rw[h];exact hn _ _ _ (.inl rfl) hk
def At(Q:Value→World→Prop)(w:World)(T:Tree):Prop:=T Q w
theorem run_loadCells{ad:Addr}{w:World}:∀(vs:List Value) (i:Nat) (acc:Array Value),(∀j,j<vs.length→w.cell? (fa ad (i+j))=vs[j]?)→
  (loadCellsFrom ad i vs.length acc).run P w= .ok (acc++vs.toArray) w:=by
 intro vs;induction vs with
 |nil=>intro i acc _;simp[loadCellsFrom]
 |cons v vs ih=>intro i acc h;have h0:=h 0 bu;simp only[Nat.add_zero,List.getElem?_cons_zero]at h0;simp only[List.length_cons,loadCellsFrom,Sem.run_bind,kh,run_load,h0,Result.andThen_ok];rw[ih (i+1) (acc.push v) fun j hj=>by have:=h (j+1) fC;simpa[Nat.add_assoc,Nat.add_comm 1 j]using this];simp
theorem GO{ad:Addr}{Q:Value→World→Prop}{w:World}:∀(ks:List LK) (i:Nat) (f:LTs ks→Tree),JL ad i ks f Q w→
  ∃x:LTs ks,(∀j,j<(fq ks x).length→w.cell? (fa ad (i+j))=(fq ks x)[j]?)∧(fq ks x).length=ks.length∧f x Q w:=by
 intro ks;induction ks with
 |nil=>intro i f h;exact⟨(),by simp[fq],rfl,h⟩
 |cons k ks ih=>
  intro i f h;obtain⟨x,hx,h⟩:=h;obtain⟨y,hy,hl,h⟩:=ih _ _ h;refine⟨_,fun j hj=>?_,by simp[fq,hl],h⟩;cases j with
  |zero=>simp[fq,hx]
  |succ j=>have:=hy j (by simpa[fq]using hj);simpa[fq,Nat.add_assoc,Nat.add_comm 1 j]using this
theorem Gw{t:TypeId}{k:LK}(h:ni P t=some (.l k)):jT P t=some false:=by
 unfold ni at h;unfold jT;split at h;·split at h<;>cases h
 ·split at h<;>cases h
 all_goals first |(rename_i hu;simp[hu];done)|cases h
theorem F7{t:TypeId}{ks:List LK}(h:ni P t=some (.g ks)):jT P t=some true:=by
 unfold ni at h;unfold jT;split at h;·rename_i hu;simp[hu]
 ·rename_i hu;simp[hu]
 all_goals cases h
theorem oG{t:TypeId}{ad:Addr}{kd:KD}{f:KT kd→Tree}{Q:Value→World→Prop}{w:World}(hk:ni P t=some kd)(hf:oy P t=true)(h:ld kd ad f Q w):
  ∃x,(loadVar t ad).run P w= .ok (kd.val x) w∧f x Q w:=by
 cases kd with
 |l k=>obtain⟨x,hx,h⟩:=h;refine⟨x,?_,h⟩;simp[loadVar,ki (Gw hk),hx,KD.val]
 |g ks=>
  obtain⟨x,hx,hl,h⟩:=GO ks 0 f h;refine⟨x,?_,h⟩;have hn:bZ P t=some ks.length:=by
   unfold oy at hf;rw[hk]at hf;cases hs:bZ P t with
   |none=>rw[hs]at hf;cases hf
   |some n=>rw[hs]at hf;simp at hf;rw[hf]
  have hc:=run_loadCells (P:=P) _ 0 #[] hx;simp[loadVar,ki (F7 hk),run_sizeOf hn,loadCells,←hl,hc,KD.val]
theorem ox{ad:Addr}:∀(vs:List Value) (i:Nat) (w:World),vs.all nA=true→(∀j,j<vs.length→(w.cell? (fa ad (i+j))).isSome=true∧w.frozen? (fa ad (i+j))=false)→
  (storeCells ad vs i).run P w= .ok () (D9 ad i vs w):=by
 intro vs;induction vs with
 |nil=>intro i w _ _;simp[storeCells,D9]
 |cons v vs ih=>
  intro i w hv h;simp only[List.all_cons,Bool.and_eq_true]at hv;obtain⟨h0,h0'⟩:=h 0 bu;simp only[Nat.add_zero]at h0 h0';have hs:(store (fa ad i) v).run P w= .ok () (w.setCell (fa ad i) v):=by have h1:=hv.1;obtain⟨u,hu⟩:=Option.isSome_iff_exists.1 h0;cases v<;>simp[nA]at h1<;>simp[store,Sem.run,hu,h0']
  simp only[storeCells,Sem.run_bind,kh,hs,Result.andThen_ok,D9];refine ih _ _ hv.2 fun j hj=>?_;have:=h (j+1) fC;rw[show i+(j+1)=i+1+j from by omega]at this;refine⟨?_,by rw[World.frozen?_setCell];exact this.2⟩;by_cases he:fa ad i=fa ad (i+1+j);·obtain⟨u,hu⟩:=Option.isSome_iff_exists.1 h0;rw[←he,World.cell?_setCell_same (h:=hu)];rfl
  ·rw[World.cell?_setCell_other (h:=he)];exact this.1
theorem xd{t:TypeId}{ad:Addr}{v:Value}{n:Nat}{w:World}(hn:bZ P t=some n)(hl:v.cells.toList.length=n)(hv:v.cells.toList.all nA=true)
  (h:∀j,j<v.cells.toList.length→(w.cell? (fa ad j)).isSome=true∧w.frozen? (fa ad j)=false):(storeVar t ad v).run P w= .ok () (D9 ad 0 v.cells.toList w):=by
 have hs:=ox (P:=P) v.cells.toList 0 w hv (by simpa using h);have hl':v.cells.size=n:=by simpa using hl
 simp[storeVar,run_sizeOf hn,hl',hs]
theorem ra(hp:eW P=true){f:FuncId}{fn:Func}(hf:P.funcs[f]? =some fn)(hb:fn.body.isSome=true)(args:Array Value)(w:World):
  (callFunc f args).run P w= .ok (.enter f args) w:=by
 have hn : (fn.name == "runtime.NumGoroutine") = false := by unfold eW at hp;rw[List.all_eq_true]at hp;have:=hp fn (by simpa using Array.mem_of_getElem? hf);simpa using this
 have hb':fn.body.isNone=false:=by cases h:fn.body<;>simp_all
 unfold callFunc;simp only[Sem.run_bind,run_program,Result.andThen_ok,hf,hn,hb',Bool.false_eq_true,if_false,Sem.run_pure]
theorem vJ{t:TypeId}{ad:Addr}{x:Operand}{κ:En→Tree}{Q:Value→World→Prop}{w:World}(ho:o.op= .load t x)(hx:a.eval x= .pointer (some ad))(h:sE P t ad κ Q w):jN P o a κ Q w:=by
 replace h:At Q w (sE P t ad κ):=h;unfold sE at h;split at h
 ·rename_i hf;split at h;·rename_i kd hk;obtain⟨v,hv,h⟩:=oG hk hf h;refine jN.value (e:= .e _) ?_ (.inr (KD.qR _ v)) h;simp only[execOp,ho,hx,Instr.loadAt];exact fE (by simpa[Instr.sureAddr]using hv)
  ·exact h.elim
 ·exact h.elim
theorem ug{t:TypeId}{ad:Addr}{x y:Operand}{κ:En→Tree}{Q:Value→World→Prop}{w:World}(hag:Agree env a.tmps)(ho:o.op= .store t x y)(hx:a.eval x= .pointer (some ad))
  (h:tx P t ad (e1 env y) κ Q w):jN P o a κ Q w:=by
 replace h:At Q w (tx P t ad (e1 env y) κ):=h;unfold tx BD at h;split at h
 ·rename_i vs n hvs hn;split at h;·rename_i hl;obtain⟨v,hv,rfl⟩:=Option.map_eq_some_iff.1 hvs;obtain⟨h1,h2,h3⟩:=h;refine jN.skip ?_ h3;simp only[execOp,ho,hx,mE hag hv,Instr.storeAt];exact Hi (by simpa[Instr.sureAddr]using xd hn hl h2 h1)
  ·exact h.elim
 ·exact h.elim
theorem DX(hp:eW P=true){f:FuncId}{args:Array Value}{κ:En→Tree}{Q:Value→World→Prop}{w:World}(hr:(execOp a.eval o).run P w=(callFunc f args).run P w)
  (h:yE P f args.toList κ Q w):jN P o a κ Q w:=by
 replace h:At Q w (yE P f args.toList κ):=h;unfold yE at h;split at h
 ·rename_i fn hf;split at h
  ·rename_i hb;split at h;·intro next R hn;unfold Oper.wp;rw[hr,ra hp hf hb];apply Calls.mono (show Calls P f _ w (fun e w'=>∃x,e= .returned _∧κ _ Q w')from h);rintro e w' ⟨x,rfl,hk⟩;exact hn _ _ _ (.inr (RK.qR _ x)) hk
   ·exact h.elim
  ·exact h.elim
 ·exact h.elim
theorem zt{α:Type}(l:List α)(n i:Nat):(List.replicate n l).flatten[i]? =if i<n*l.length then l[i%l.length]? else none:=by
 induction n generalizing i with
 |zero=>simp
 |succ n ih=>
  rw[List.replicate_succ,List.flatten_cons,List.getElem?_append];by_cases h:i<l.length;·have h2:i<(n+1)*l.length:=Nat.lt_of_lt_of_le h (Nat.le_mul_of_pos_left _ (Nat.succ_pos n));simp[h,h2,Nat.mod_eq_of_lt h]
  ·have hle:=Nat.le_of_not_lt h;rw[if_neg h,ih];have h3:(i-l.length<n*l.length)↔i<(n+1)*l.length:=by rw[Nat.succ_mul];omega
   simp only[h3];rw[Nat.mod_eq_sub_mod hle]
theorem sA{z:Array Value}{n m:Nat}(hz:z.size=m):(List.replicate n z.toList).flatten.toArray=(Array.range (n*m)).map (z[·%z.size]!):=by
 apply Array.ext';apply List.ext_getElem?;intro i;subst hz;rw[zt];by_cases h:i<n*z.size
 ·have hp:0<z.size:=by
   rcases Nat.eq_zero_or_pos z.size with h0|h0;·rw[h0]at h;simp at h
   ·exact h0
  have hm:=Nat.mod_lt i hp;simp[h,hm]
 ·simp[h]
theorem zf(hp:eW P=true){κ:En→Tree}{Q:Value→World→Prop}{w:World}(hag:Agree env a.tmps)(h:lx P o env κ Q w):jN P o a κ Q w:=by
 have H1:∀x v,(e1 env x).v=some v→a.eval x=v:=fun x v hv=>mE hag hv;replace h:At Q w (lx P o env κ):=h;unfold lx at h;split at h
 ·rename_i t x ho;split at h;·rename_i ad hx;exact vJ ho (H1 x _ (by rw[hx];rfl)) h
  ·rename_i p hx;obtain⟨ad,rfl,h⟩:=h;exact vJ ho (H1 x _ (by rw[hx];rfl)) h
  ·exact h.elim
 ·rename_i t x y ho;split at h;·rename_i ad hx;exact ug hag ho (H1 x _ (by rw[hx];rfl)) h
  ·rename_i p hx;obtain⟨ad,rfl,h⟩:=h;exact ug hag ho (H1 x _ (by rw[hx];rfl)) h
  ·exact h.elim
 ·rename_i t ho;split at h;·rename_i z hz;refine jN.value ?_ (.inr rfl) h;simp only[execOp,ho,Instr.alloc];apply fE;simp[jj hz,newVar,newRow,zc,hz]
  ·exact h.elim
 ·rename_i t x ho;split at h;·rename_i vs hvs;obtain⟨v,hv,rfl⟩:=Option.map_eq_some_iff.1 hvs;refine jN.value ?_ (.inr rfl) h;simp only[execOp,ho,Instr.box,H1 x v hv];apply fE;simp[newVar,newRow]
  ·exact h.elim
 ·rename_i t n ps ho;split at h
  ·rename_i e he;split at h
   ·rename_i m z vs hm hz hps;split at h;·exact h.elim
    ·rename_i hlim;split at h
     ·rename_i cs jb;split at h
      ·rename_i hzm;refine jN.value ?_ (.inr rfl) h;have hp:=pH hag hps;have hpm:(ps.map fun(x:Nat×Operand)=>(x.1,a.eval x.2))=vs.toArray:=by apply Array.ext';simp[←hp]
       have hf:=uo jb;rw[sA hzm]at hf;simp only[execOp,ho];apply fE;rw[show(ps.map fun(i,x)=>(i,a.eval x))=vs.toArray from hpm];by_cases h0:n*m=0
       ·have he0:∀z0:Array Value,((Array.range (n*m)).map fun x=>z0[x%z0.size]!)= #[]:=by intro z0;rw[h0];simp
        rw[he0]at hf;unfold Instr.buildSlice;simp only[Sem.run_bind,run_underlying he,run_sizeOf hm,Result.andThen_ok,if_neg hlim,if_pos h0,Sem.run_pure,he0,hf];simp[newRow]
       ·unfold Instr.buildSlice;simp only[Sem.run_bind,run_underlying he,run_sizeOf hm,Result.andThen_ok,if_neg hlim,if_neg h0,Sem.run_pure,jj hz];simp only[hf];simp[newRow]
      ·exact h.elim
     ·exact h.elim
   ·exact h.elim
  ·exact h.elim
 ·rename_i t r ho;split at h;·refine jN.value ?_ (.inr rfl) h;simp only[execOp,ho,Instr.makeMap];apply fE;simp
  ·exact h.elim
 ·rename_i t l c ho;split at h;·rename_i lv cv hl hc;obtain⟨x,w',hr,h⟩:=h;refine jN.value ?_ (.inr rfl) h;simp only[execOp,ho,H1 l _ hl,H1 c _ hc];exact fE hr
  ·exact h.elim
 ·rename_i t x i ok ho;split at h
  ·rename_i xv iv kt et hx hi ht;split at h
   ·rename_i kd hkd;cases ok with
    |true=>
     obtain⟨r,w',hr,h⟩:=h;refine jN.value (v:= .tuple #[kd.val r.1,.bool r.2.1]) ?_ (.inr ?_) h;·simp only[execOp,ho,H1 x _ hx,H1 i _ hi];exact fE hr
     ·exact RK.qR _ r
    |false=>obtain⟨r,w',hr,h⟩:=h;refine jN.value (e:= .e _) ?_ (.inr (KD.qR _ r)) h;simp only[execOp,ho,H1 x _ hx,H1 i _ hi];exact fE hr
   ·exact h.elim
  ·exact h.elim
 ·rename_i t m k x ho;split at h;·rename_i mv kv xv hm hk hx;obtain⟨w',hr,h⟩:=h;refine jN.skip ?_ h;simp only[execOp,ho,H1 m _ hm,H1 k _ hk,H1 x _ hx];exact Hi hr
  ·exact h.elim
 ·rename_i t m k x ho;split at h;·rename_i mv kv xv hm hk hx;obtain⟨w',hr,h⟩:=h;refine jN.skip ?_ h;simp only[execOp,ho,H1 m _ hm,H1 k _ hk,H1 x _ hx];exact Hi hr
  ·exact h.elim
 ·rename_i t x ho;split at h
  ·rename_i xv k e hx ht;split at h;·obtain⟨r,w',hr,h⟩:=h;refine jN.value ?_ (.inr rfl) h;simp only[execOp,ho,H1 x _ hx];exact fE hr
   ·exact h.elim
  ·exact h.elim
 ·rename_i x str ho;split at h
  ·rename_i v kk kv hx;rcases h with ⟨w',hr,h⟩|⟨k,u,w',hr,h⟩;·refine jN.value ?_ (.inr rfl) h;simp only[execOp,ho,H1 x v (by rw[hx];rfl)];exact fE hr
   ·refine jN.value (v:= .tuple #[.bool true,kk.val k,kv.val u]) ?_ (.inr ?_) h;·simp only[execOp,ho,H1 x v (by rw[hx];rfl)];exact fE hr
    ·have:=xN [kk,kv] (k,u,());simp only[Ft,p5]at this;have h2:E1.vs (.tt::[kk.en k,kv.en u])=some (.bool true::[kk.val k,kv.val u]):=by rw[E1.vs,this];rfl
     simp only[En.v,h2,Option.map_some]
  ·exact h.elim
 ·rename_i x ho;split at h;·rename_i v kk kv hx;obtain⟨r,w',hr,h⟩:=h;refine jN.value (v:= .tuple #[kk.val r.1,kv.val r.2.1]) ?_ (.inr (RK.qR _ r)) h;simp only[execOp,ho,H1 x v (by rw[hx];rfl)];exact fE hr
  ·exact h.elim
 ·rename_i c ho;obtain⟨callee,args,ts⟩:=c;dsimp only at h;split at h;·exact h.elim
  ·rename_i vs hvs;have ha:args.map a.eval=vs.toArray:=by apply Array.ext';simpa using mI hag hvs
   split at h
   ·rename_i f;split at h;rotate_left
    ·rename_i v hf;split at h
     ·obtain⟨g,i,c,fn,rfl,hfn,hb,h⟩:=h;intro next R hn;unfold Oper.wp;have hr:(execOp a.eval o).run P w=(callFunc g (i++vs.toArray++c)).run P w:=by simp[execOp,ho,resolve,H1 f _ (by rw[hf];rfl),Deferred.ofValue,invoke,ha]
      rw[hr,ra hp hfn hb];apply Calls.mono h;rintro e w' ⟨x,rfl,hk⟩;exact hn _ _ _ (.inr (RK.qR _ x)) hk
     ·exact h.elim
    ·exact h.elim
    ·rename_i g i c hf;replace h:yE P g (i.toList++vs++c.toList) κ Q w:=h;refine DX hp (args:=i++vs.toArray++c) ?_ (by simpa using h);simp[execOp,ho,resolve,H1 f _ (by rw[hf];rfl),Deferred.ofValue,invoke,ha]
   ·obtain⟨r,w',hr,h⟩:=h;refine jN.value ?_ (.inr rfl) h;simp only[execOp,ho,resolve,ha,Sem.run_bind,Sem.run_pure,Result.andThen_ok,invoke,builtin,hr];rfl
   ·obtain⟨r,w',hr,h⟩:=h;refine jN.value (v:= .tuple #[]) ?_ (.inl rfl) h;simp only[execOp,ho,resolve,ha,Sem.run_bind,Sem.run_pure,Result.andThen_ok,invoke,builtin,hr];rfl
   ·obtain⟨r,w',hr,h⟩:=h;refine jN.value (v:= .tuple #[]) ?_ (.inl rfl) h;simp only[execOp,ho,resolve,ha,Sem.run_bind,Sem.run_pure,Result.andThen_ok,invoke,builtin,hr];rfl
   ·obtain⟨r,w',hr,h⟩:=h;refine jN.value ?_ (.inr rfl) h;simp only[execOp,ho,resolve,ha,Sem.run_bind,Sem.run_pure,Result.andThen_ok,invoke,builtin,hr];rfl
   ·exact h.elim
 ·exact h.elim
theorem Ig(hp:eW P=true){κ:En→Tree}{Q:Value→World→Prop}{w:World}(hag:Agree env a.tmps)(h:qF P o env κ Q w):jN P o a κ Q w:=by
 replace h:At Q w (qF P o env κ):=h;unfold qF at h;split at h;·rename_i pt hpt;obtain⟨e,v,he,hr,h⟩:=rO hag hpt κ Q w h;exact jN.value (hr w) he h
 ·exact zf hp hag h
end
section
open Go
variable{P:Program}
def jW(P:Program)(f:FuncId)(Q:Value→World→Prop)(k:List Item)(a:Act)(w:World):Prop:=
 a.defers=[]→∀(b:Frame) (cs:List Frame),b.kind= .normal→b.fn=f→∃v w' fr,Q v w'∧Steps P (lone (b.at a k) cs w) (lone fr cs w')∧fr.fn=f∧fr.leaving P w' (.returned v)
def mU(ws:List Nat)(a a':Act):Prop:=a'.tmps.size=a.tmps.size∧a'.defers=a.defers∧∀i,i∉ws→a'.tmps.getD i undef=a.tmps.getD i undef
theorem mU.refl(ws:List Nat)(a:Act):mU ws a a:=⟨rfl,rfl,fun _ _=>rfl⟩
theorem mU.trans{ws:List Nat}{a b c:Act}(h:mU ws a b)(h':mU ws b c):mU ws a c:=
 ⟨h'.1.trans h.1,h'.2.1.trans h.2.1,fun i hi=>(h'.2.2 i hi).trans (h.2.2 i hi)⟩
theorem mU.mono{ws ws':List Nat}{a b:Act}(h:mU ws a b)(hs:∀i,i∈ws→i∈ws'):mU ws' a b:=
 ⟨h.1,h.2.1,fun i hi=>h.2.2 i fun hm=>hi (hs i hm)⟩
theorem mU.put{ws:List Nat}{a:Act}{dst:Option Tmp}{v:Value}(h:∀d,dst=some d→d∈ws):mU ws a (a.put dst v):=by
 cases dst with
 |none=>exact mU.refl _ _
 |some d=>refine⟨by simp[Act.put],rfl,fun i hi=>?_⟩;have hne:d≠i:=fun he=>hi (he▸h d rfl);simp[Act.put,Array.getD_eq_getD_getElem?,Array.getElem?_setIfInBounds,hne]
def QN(N:Act→World→Prop):Exit→Act→World→Prop
 | .normal,a,w=>N a w
 |_,_,_=>False
theorem oB{ops:Array Oper}{env:Env}{a:Act}(hag:Agree env a.tmps){j d:Nat}{b:Bool}(hd:(ops.toList[j]?).bind (·.dst)=some d)(hv:(env.getD d nE).v=some (.bool b)):
  yielded ops a.tmps j=some b:=by
 have hd':(ops[j]?).bind (·.dst)=some d:=by simpa using hd
 have h:=hag.bM d _ hv;have hs:=hag.size d (Env.Kv hv);unfold yielded;rw[hd'];simp only[Option.bind_some];simp only[Array.getD_eq_getD_getElem?]at h;cases hg:a.tmps[d]? with
 |none=>simp[hs]at hg
 |some u=>rw[hg]at h;subst h;rfl
theorem nX{ops:Array Oper}{env:Env}{a:Act}(hag:Agree env a.tmps){j d:Nat}{vs:Array Value}(hd:(ops.toList[j]?).bind (·.dst)=some d)(hv:(env.getD d nE).v=some (.tuple vs)):
  yielded ops a.tmps j=none:=by
 have hd':(ops[j]?).bind (·.dst)=some d:=by simpa using hd
 have h:=hag.bM d _ hv;unfold yielded;rw[hd'];simp only[Option.bind_some];simp only[Array.getD_eq_getD_getElem?]at h;cases hg:a.tmps[d]? with
 |none=>rfl
 |some u=>rw[hg]at h;subst h;rfl
theorem k9{env:Env}{a:Act}(hag:Agree env a.tmps){d:Nat}{b:Bool}{e:En}(hv:(env.getD d nE).v=some (.bool b))(he:e.v=some (.bool b)):Agree (env.set d e) a.tmps:=by
 refine⟨fun i hi=>hag.size i (by rwa [Env.km]at hi),fun i v h=>?_⟩;rw[Env.jP]at h;split at h;·rename_i hi;obtain⟨rfl,_⟩:=hi;rw[he]at h;cases h;exact hag.bM d _ hv
 ·exact hag.bM i v h
theorem B8(hp:eW P=true){ops:Array Oper}{K:Env→Tree}{Q:Value→World→Prop}{N:Act→World→Prop}{ws:List Nat}:∀(l:List Oper) (env:Env) (a:Act) (w:World),
  (∀o∈l,∀d,o.dst=some d→d∈ws)→Agree env a.tmps→nK P ops l env K Q w→
  (∀env' a' w',Agree env' a'.tmps→mU ws a a'→K env' Q w'→N a' w')→wpList P ops (QN N) l a w:=by
 intro l;induction l with
 |nil=>intro env a w _ hag h hN;exact hN _ a w hag (mU.refl _ _) h
 |cons o rest ih=>
  intro env a w hws hag h hN;have hwo:=hws o bu;have hwr:∀o∈rest,∀d,o.dst=some d→d∈ws:=fun o ho=>hws o (by simp[ho]);have go:∀env,Agree env a.tmps→Region.wanted o (yielded ops a.tmps)=true→qF P o env (fun e=>nK P ops rest (lM env o.dst e) K) Q w→wpList P ops (QN N) (o::rest) a w:=by intro env hag hw h;unfold wpList;rw[if_pos hw];refine .inl (Ig hp hag h _ _ fun e v w' he hk=>?_);exact ih _ _ _ hwr (hag.put he) hk fun env' a' w' h1 h2 h3=>hN env' a' w' h1 ((mU.put hwo).trans h2) h3
  have skip:∀env,Agree env a.tmps→Region.wanted o (yielded ops a.tmps)=false→nK P ops rest (lM env o.dst uE) K Q w→wpList P ops (QN N) (o::rest) a w:=by intro env hag hw h;unfold wpList;rw[if_neg (by simp[hw])];exact ih _ _ _ hwr (hag.put (.inr rfl)) h fun env' a' w' h1 h2 h3=>hN env' a' w' h1 ((mU.put hwo).trans h2) h3
  unfold nK at h;split at h;·rename_i hg;exact go _ hag (by simp[Region.wanted,hg]) h
  ·rename_i j want hg;split at h;·exact h.elim
   ·rename_i d hd;have hwant:∀b,(env.getD d nE).v=some (.bool b)→Region.wanted o (yielded ops a.tmps)=(b==want):=by intro b hb;rw[Region.wanted,hg];simp only[oB hag hd hb];cases b<;>cases want<;>rfl
    split at h
    ·rename_i he;have hw:=hwant true (by rw[he];rfl);split at h;·rename_i hwt;exact go _ hag (by simp[hw,hwt]) h
     ·rename_i hwt;exact skip _ hag (by simp[hw,hwt]) h
    ·rename_i he;have hw:=hwant false (by rw[he];rfl);split at h;·rename_i hwt;exact skip _ hag (by simp[hw,hwt]) h
     ·rename_i hwt;exact go _ hag (by simp[hw];simpa using hwt) h
    ·rename_i vs he;refine skip _ hag ?_ h;rw[Region.wanted,hg];simp only[nX hag hd (by rw[he];rfl)];rfl
    ·rename_i b he;have hw:=hwant b (by rw[he];rfl);have hT:b=true→Agree (env.set d (.e .tt)) a.tmps:=fun hb=>k9 hag (by rw[he,hb];rfl) rfl;have hF:b=false→Agree (env.set d (.e .ff)) a.tmps:=fun hb=>k9 hag (by rw[he,hb];rfl) rfl;obtain⟨h1,h2⟩:=h;cases b with
     |true=>
      have h1:=h1 rfl;cases want with
      |true=>exact go _ (hT rfl) (by simp[hw]) h1
      |false=>exact skip _ (hT rfl) (by simp[hw]) h1
     |false=>
      have h2:=h2 rfl;cases want with
      |true=>exact skip _ (hF rfl) (by simp[hw]) h2
      |false=>exact go _ (hF rfl) (by simp[hw]) h2
    ·exact h.elim
def dn(o:Oper):Bool:=
 match o.op with
 | .load _ _| .move _| .assign _| .pick _ _ _| .nilCheck _| .binOp _ _ _ _ _| .unOp _ _ _| .convert _ _ _| .fieldAddr _ _ _| .field _ _ _| .indexAddr _ _ _
 | .extract _ _| .makeFunc _ _ _| .build _ _| .slice _ _ _ _ _| .index _ _ _=>true
 | .call c=>match c.callee with | .builtin .len| .builtin .cap| .builtin .max| .builtin .min=>true|_=>false
 |_=>false
theorem wq{o:Oper}{env:Env}{κ:En→Tree}{Q:Value→World→Prop}{w:World}(hq:dn o=true)(h:lx P o env κ Q w):∃t x,o.op= .load t x:=by
 obtain⟨dst,op,type,pos,after,guard⟩:=o;replace h:At Q w (lx P ⟨dst,op,type,pos,after,guard⟩ env κ):=h;unfold lx at h;cases op with
 |load t x=>exact⟨t,x,rfl⟩
 |call c=>
  unfold dn at hq;dsimp only at h hq;split at h;·exact h.elim
  ·split at hq;·rename_i hc;rw[hc]at h;exact h.elim
   ·rename_i hc;rw[hc]at h;exact h.elim
   ·rename_i hc;rw[hc]at h;exact h.elim
   ·rename_i hc;rw[hc]at h;exact h.elim
   ·cases hq
 |_=>first |exact h.elim|(simp[dn]at hq)
theorem EP{o:Oper}{env:Env}{a:Act}{κ:En→Tree}{Q:Value→World→Prop}{w:World}(hag:Agree env a.tmps)(hq:dn o=true)(h:qF P o env κ Q w):
  ∃e v,(e.v=none∨e.v=some v)∧(execOp a.eval o).run P w= .ok (.value v) w∧κ e Q w:=by
 replace h:At Q w (qF P o env κ):=h;unfold qF at h;split at h;·rename_i pt hpt;obtain⟨e,v,he,hr,h⟩:=rO hag hpt κ Q w h;exact⟨e,v,he,hr w,h⟩
 ·obtain⟨t,x,ho⟩:=wq hq h;have key:∀ad,a.eval x= .pointer (some ad)→sE P t ad κ Q w→∃e v,(e.v=none∨e.v=some v)∧(execOp a.eval o).run P w= .ok (.value v) w∧κ e Q w:=by
   intro ad hx h;replace h:At Q w (sE P t ad κ):=h;unfold sE at h;split at h
   ·rename_i hf;split at h;·rename_i kd hk;obtain⟨v,hv,h⟩:=oG hk hf h;refine⟨.e _,kd.val v,.inr (KD.qR _ v),?_,h⟩;simp only[execOp,ho,hx,Instr.loadAt];exact fE (by simpa[Instr.sureAddr]using hv)
    ·exact h.elim
   ·exact h.elim
  have H1:∀x v,(e1 env x).v=some v→a.eval x=v:=fun x v hv=>mE hag hv;unfold lx at h;rw[ho]at h;dsimp only at h;split at h;·rename_i ad hx;exact key _ (H1 x _ (by rw[hx];rfl)) h
  ·rename_i p hx;obtain⟨ad,rfl,h⟩:=h;exact key _ (H1 x _ (by rw[hx];rfl)) h
  ·exact h.elim
theorem vo{ops:Array Oper}{K:Env→Tree}{Q:Value→World→Prop}{ws:List Nat}{w:World}{l2:List Oper}:∀(l1:List Oper) (env:Env) (a:Act),
  (∀o∈l1,∀d,o.dst=some d→d∈ws)→l1.all dn=true→Agree env a.tmps→nK P ops (l1++l2) env K Q w→
  wpStill P ops w (fun a'=>∃env',Agree env' a'.tmps∧mU ws a a'∧nK P ops l2 env' K Q w) l1 a:=by
 intro l1;have still_mono:∀(l:List Oper) (a:Act) (A B:Act→Prop),(∀a,A a→B a)→wpStill P ops w A l a→wpStill P ops w B l a:=by
  intro l;induction l with
  |nil=>intro a A B h hA;exact h a hA
  |cons o l ih=>
   intro a A B h hA;unfold wpStill at hA⊢;split
   ·rename_i hw;rw[if_pos hw]at hA;unfold Oper.still at hA⊢;generalize(execOp a.eval o).run P w=r at hA;unfold Oper.stillUpon at hA⊢;split;·exact⟨hA.1,ih _ _ _ h hA.2⟩
    ·exact⟨hA.1,ih _ _ _ h hA.2⟩
    ·obtain⟨h1,v,h2,h3⟩:=hA;exact⟨h1,v,h2,ih _ _ _ h h3⟩
    ·rename_i r h1 h2 h3;split at hA;·exact(h1 _ _ rfl).elim
     ·exact(h2 _ rfl).elim
     ·exact(h3 _ _ _ rfl).elim
     ·exact hA.elim
   ·rename_i hw;rw[if_neg hw]at hA;exact ih _ _ _ h hA
 induction l1 with
 |nil=>intro env a _ _ hag h;exact⟨env,hag,mU.refl _ _,h⟩
 |cons o rest ih=>
  intro env a hws hq hag h;have hwo:=hws o (by simp);have hwr:∀o∈rest,∀d,o.dst=some d→d∈ws:=fun o ho=>hws o (by simp[ho]);simp only[List.all_cons,Bool.and_eq_true]at hq;have go:∀env,Agree env a.tmps→Region.wanted o (yielded ops a.tmps)=true→qF P o env (fun e=>nK P ops (rest++l2) (lM env o.dst e) K) Q w→
    wpStill P ops w (fun a'=>∃env',Agree env' a'.tmps∧mU ws a a'∧nK P ops l2 env' K Q w) (o::rest) a:=by intro env hag hw h;obtain⟨e,v,he,hr,h⟩:=EP hag hq.1 h;unfold wpStill;rw[if_pos hw];unfold Oper.still;rw[hr,Oper.stillUpon_value];exact still_mono _ _ _ _ (fun a' ⟨env',h1,h2,h3⟩=>⟨env',h1,(mU.put hwo).trans h2,h3⟩) (ih _ _ hwr hq.2 (hag.put he) h)
  have skip:∀env,Agree env a.tmps→Region.wanted o (yielded ops a.tmps)=false→nK P ops (rest++l2) (lM env o.dst uE) K Q w→
    wpStill P ops w (fun a'=>∃env',Agree env' a'.tmps∧mU ws a a'∧nK P ops l2 env' K Q w) (o::rest) a:=by intro env hag hw h;unfold wpStill;rw[if_neg (by simp[hw])];exact still_mono _ _ _ _ (fun a' ⟨env',h1,h2,h3⟩=>⟨env',h1,(mU.put hwo).trans h2,h3⟩) (ih _ _ hwr hq.2 (hag.put (.inr rfl)) h)
  replace h:At Q w (nK P ops (o::(rest++l2)) env K):=h;unfold nK at h;dsimp only at h;split at h;·rename_i hg;exact go _ hag (by simp[Region.wanted,hg]) h
  ·rename_i j want hg;split at h;·exact h.elim
   ·rename_i d hd;have hwant:∀b,(env.getD d nE).v=some (.bool b)→Region.wanted o (yielded ops a.tmps)=(b==want):=by intro b hb;rw[Region.wanted,hg];simp only[oB hag hd hb];cases b<;>cases want<;>rfl
    split at h
    ·rename_i he;have hw:=hwant true (by rw[he];rfl);split at h;·rename_i hwt;exact go _ hag (by simp[hw,hwt]) h
     ·rename_i hwt;exact skip _ hag (by simp[hw,hwt]) h
    ·rename_i he;have hw:=hwant false (by rw[he];rfl);split at h;·rename_i hwt;exact skip _ hag (by simp[hw,hwt]) h
     ·rename_i hwt;exact go _ hag (by simp[hw];simpa using hwt) h
    ·rename_i vs he;refine skip _ hag ?_ h;rw[Region.wanted,hg];simp only[nX hag hd (by rw[he];rfl)];rfl
    ·rename_i b he;have hw:=hwant b (by rw[he];rfl);have hT:b=true→Agree (env.set d (.e .tt)) a.tmps:=fun hb=>k9 hag (b:=true) (by rw[he,hb];rfl) rfl;have hF:b=false→Agree (env.set d (.e .ff)) a.tmps:=fun hb=>k9 hag (b:=false) (by rw[he,hb];rfl) rfl;obtain⟨h1,h2⟩:=h;cases b with
     |true=>
      have h1:=h1 rfl;cases want with
      |true=>exact go _ (hT rfl) (by simp[hw]) h1
      |false=>exact skip _ (hT rfl) (by simp[hw]) h1
     |false=>
      have h2:=h2 rfl;cases want with
      |true=>exact skip _ (hF rfl) (by simp[hw]) h2
      |false=>exact go _ (hF rfl) (by simp[hw]) h2
    ·exact h.elim
section
variable{ops:Array Oper}{Q:Exit→Act→World→Prop}{S:World→Prop}{bar:Option Nat}
def y8(ops:Array Oper):Nat→Nat→Nat→Bool
 |0,i,j=>i==j
 |n+1,i,j=>i==j||(match ops.toList[j]? with |none=>false|some o=>o.after.toList.any fun e=>Region.binds .any e&&y8 ops n i e.on)
def Down(ops:Array Oper)(l:Array Bool):Prop:=∀j,l.getD j false=true→∀o,ops[j]? =some o→∀e∈o.after,Region.binds .any e=true→l.getD e.on false=true
theorem EL{l:Array Bool}(hd:Down ops l):∀{n i j:Nat},y8 ops n i j=true→l.getD j false=true→l.getD i false=true:=by
 intro n;induction n with
 |zero=>intro i j h hj;simp[y8]at h;subst h;exact hj
 |succ n ih=>
  intro i j h hj;unfold y8 at h;rw[Bool.or_eq_true]at h;rcases h with h|h;·simp at h;subst h;exact hj
  ·split at h;·cases h
   ·rename_i o ho;rw[List.any_eq_true]at h;obtain⟨e,he,h⟩:=h;rw[Bool.and_eq_true]at h;exact ih h.2 (hd j hj o (by simpa using ho) e (by simpa using he) h.1)
def o7(bar:Option Nat)(l:Array Bool):Bool:=match bar with |none=>true|some j=> !l.getD j false
theorem DO{l:Array Bool}{i j:Nat}(h:l.getD j false=true):(l.setIfInBounds i true).getD j false=true:=by
 by_cases hij:i=j
 ·subst hij;rcases Nat.lt_or_ge i l.size with h'|h';·simp[h']
  ·simp[Array.getElem?_eq_none h']at h
 ·simp[hij];simpa using h
theorem vQ{l:Array Bool}{i j:Nat}(h:i≠j):(l.setIfInBounds i true).getD j false=l.getD j false:=by simp only[Array.getD_eq_getD_getElem?,Array.getElem?_setIfInBounds,h,if_false]
theorem qg{l:Array Bool}{i:Nat}(h:l.getD i true=false):i<l.size∧l.getD i false=false:=by
 rcases Nat.lt_or_ge i l.size with h'|h';·simp[h']at h⊢;exact h
 ·simp[Array.getElem?_eq_none h']at h
theorem o7.set{l:Array Bool}{i:Nat}(h:bar≠some i):o7 bar (l.setIfInBounds i true)=o7 bar l:=by
 unfold o7;cases bar with
 |none=>rfl
 |some j=>dsimp only;rw[vQ (fun e=>h (by rw[e]))]
theorem o7.at{l:Array Bool}{i:Nat}(h:i<l.size):o7 (some i) (l.setIfInBounds i true)=false:=by simp[o7,h]
theorem Down.set{l:Array Bool}{j:Nat}(hd:Down ops l)(hj:j∈Region.ready .any ops l):Down ops (l.setIfInBounds j true):=by
 intro k hk o ho e he hb;apply DO;by_cases hkj:j=k;·subst hkj;obtain⟨_,o',ho',hall⟩:=mem_ready.1 hj;rw[ho]at ho';injection ho' with ho';subst ho';exact hall e he hb
 ·rw[vQ hkj]at hk;exact hd k hk o ho e he hb
theorem Down.start(ops:Array Oper):Down ops (Array.replicate ops.size false):=by intro k hk;simp only[Array.getD_eq_getD_getElem?,Array.getElem?_replicate]at hk;split at hk<;>simp at hk
theorem o7.start(bar:Option Nat)(ops:Array Oper):false= !o7 bar (Array.replicate ops.size false):=by
 unfold o7;cases bar with
 |none=>rfl
 |some j=>simp only[Array.getD_eq_getD_getElem?,Array.getElem?_replicate];split<;>simp
def iZ(P:Program)(ops:Array Oper)(Q:Exit→Act→World→Prop)(S:World→Prop)(bar:Option Nat):Nat→Array Bool→Act→World→Prop
 |0,listed,a,w=>Region.ready .any ops listed=[]∧Q .normal a w
 |fuel+1,listed,a,w=>
  (Region.ready .any ops listed=[]→Q .normal a w)∧
  ∀i∈Region.ready .any ops listed,wpOp P ops Q i (fun a' w'=>(o7 bar (listed.setIfInBounds i true)=true→S w')∧iZ P ops Q S bar fuel (listed.setIfInBounds i true) a' w') a w
theorem ub:∀(fuel:Nat) (listed:Array Bool) (a:Act) (w:World),iZ P ops Q S bar fuel listed a w→wpAny P .any ops Q fuel listed a w
 |0,_,_,_,h=>h
 |fuel+1,_,_,_,h=>⟨h.1,fun i hi=>wpOp_mono (fun a' w' h'=>ub fuel _ a' w' h'.2) (h.2 i hi)⟩
theorem oD{S':World→Prop}(hs:∀w,S' w→S w):∀(fuel:Nat) (listed:Array Bool) (a:Act) (w:World),iZ P ops Q S' bar fuel listed a w→iZ P ops Q S bar fuel listed a w
 |0,_,_,_,h=>h
 |fuel+1,_,_,_,h=>⟨h.1,fun i hi=>wpOp_mono (fun a' w' h'=>⟨fun hb=>hs _ (h'.1 hb),oD hs fuel _ a' w' h'.2⟩) (h.2 i hi)⟩
theorem yS{id:Nat}{a:Act}{w:World}(hm:P.follows .mixedOrders=true)
  (h:iZ P ops Q S bar ops.size (Array.replicate ops.size false) a {w with drawn:=w.drawn+1}):(Code.region id ops true).wp P Q a w:=
 wp_region_any hm (ub _ _ _ _ h)
theorem qU{S':World→Prop}{i:Nat}{oi:Oper}{v:Value}(hi:ops[i]? =some oi)(hsel:∀(j:Nat) (o:Oper) cs b,ops[j]? =some o→o.op≠.select cs b)
  (hQ:∀c a w,Q (.panic c) (a.put oi.dst v) w→Q (.panic c) a w) (hbar:bar≠some i)
  (hT:∀l w',Down ops l→l.getD i false=false→(o7 bar l=true→S w')→S' w'):
  ∀(fuel:Nat) (listed:Array Bool) (a:Act) (w:World),
   (∀j oj,ops[j]? =some oj→j≠i→listed.getD j true=false→(∀e∈oj.after,Region.binds .any e=true→e.on≠i)→oi.apart ops oj=true)→
   Down ops listed→i∈Region.ready .any ops listed→YieldsIf P ops S' oi v a→(o7 bar listed=true→S w)→
   iZ P ops Q S bar fuel (listed.setIfInBounds i true) (a.put oi.dst v) w→iZ P ops Q S bar (fuel+1) listed a w:=by
 intro fuel;induction fuel with
 |zero=>
  intro listed a w _ hd hr hy hS H;refine⟨fun h=>(by rw[h]at hr;cases hr),fun j hj=>?_⟩;by_cases hji:j=i;·subst hji;exact hy.wpOp hi (hT _ w hd (qg (mem_ready.1 hj).1).2 hS) ⟨by rw[o7.set hbar];exact hS,H⟩
  ·have:=ready_mono hj hji;rw[H.1]at this;cases this
 |succ fuel ih=>
  intro listed a w hfree hd hr hy hS H;refine⟨fun h=>(by rw[h]at hr;cases hr),fun j hj=>?_⟩;by_cases hji:j=i;·subst hji;exact hy.wpOp hi (hT _ w hd (qg (mem_ready.1 hj).1).2 hS) ⟨by rw[o7.set hbar];exact hS,H⟩
  ·have h1:=H.2 j (ready_mono hj hji);obtain⟨hjun,oj,hoj,hall⟩:=mem_ready.1 hj;have hiun:=(qg (mem_ready.1 hr).1).2;have hnot:∀e∈oj.after,Region.binds .any e=true→e.on≠i:=fun e he hb heq=>by have h1:=hall e he hb;rw[heq,hiun]at h1;cases h1
   have h2:=wpOp_putIf hoj (hfree j oj hoj hji hjun hnot) (fun cs b=>hsel i oi cs b hi) (fun cs b=>hsel j oj cs b hoj) hQ hy h1;have hfree':∀k ok,ops[k]? =some ok→k≠i→(listed.setIfInBounds j true).getD k true=false→
     (∀e∈ok.after,Region.binds .any e=true→e.on≠i)→oi.apart ops ok=true:=fun k ok hk hki hun hno=>by
    refine hfree k _ hk hki ?_ hno;by_cases hjk:j=k;·subst hjk;exact hjun
    ·rw[getD_set_ne true hjk]at hun;exact hun
   have hd':=hd.set hj;refine wpOp_mono (fun a' w' h3=>?_) h2;have hcomm:(listed.setIfInBounds j true).setIfInBounds i true=(listed.setIfInBounds i true).setIfInBounds j true:=Array.setIfInBounds_comm _ _ hji;have hS':o7 bar (listed.setIfInBounds j true)=true→S w':=by intro hb;apply h3.2.1;rw[←hcomm,o7.set hbar];exact hb
   refine⟨hS',ih _ _ _ hfree' hd' (ready_mono hr (Ne.symm hji)) h3.1 hS' ?_⟩;rw[hcomm];exact h3.2.2
theorem u0{rs:List Nat}{fuel:Nat}{listed:Array Bool}{a:Act}{w:World}(hr:Region.ready .any ops listed=rs)(hne:rs≠[])
  (h:∀i∈rs,wpOp P ops Q i (fun a' w'=>(o7 bar (listed.setIfInBounds i true)=true→S w')∧iZ P ops Q S bar fuel (listed.setIfInBounds i true) a' w') a w):iZ P ops Q S bar (fuel+1) listed a w:=
 ⟨fun h0=>absurd (hr▸h0) hne,hr▸h⟩
theorem zh{listed:Array Bool}{a:Act}{w:World}(hr:Region.ready .any ops listed=[])(h:Q .normal a w):
  ∀fuel,iZ P ops Q S bar fuel listed a w
 |0=>⟨hr,h⟩
 |_+1=>⟨fun _=>h,by rw[hr];simp⟩
end
def mf(o:Oper):Bool:=match o.op with | .load _ _=>true|_=>false
def HT.cT:HT→List Nat
 | .nil=>[]| .go i _ _=>[i]| .two x y=>x.cT++y.cT| .cut x=>x.cT
def my(ops:Array Oper)(bar:Option Nat):HT→Array Bool→Bool→Bool→Bool
 | .nil,listed,_,_=>(Region.ready .any ops listed).isEmpty
 | .cut x,listed,c,post=>my ops bar x listed c post
 | .two x y,listed,c,post=> !(x.cT++y.cT).isEmpty&&(if c then Region.ready .any ops listed==x.cT++y.cT else true)&&my ops bar x listed false post&&my ops bar y listed false post
 | .go i b rest,listed,c,post=>match ops.toList[i]? with
  |none=>false
  |some o=>(if dn o then c&&(!b)&&Region.free .any ops listed i&&(Region.ready .any ops listed).contains i&&(bar != some i)&&
    (if mf o then(!post)&&(match bar with |none=>true|some j=>y8 ops ops.size i j)else true)
   else(if c then Region.ready .any ops listed==[i]else true)&&(b==(bar==some i)))&&my ops bar rest (listed.setIfInBounds i true) true (post||b)
def HT.size:HT→Nat
 | .nil=>0| .go _ _ t=>t.size+1| .two x y=>max x.size y.size| .cut x=>x.size
theorem Dh{S:World→Prop}{ad:Addr}{Q:Value→World→Prop}{w:World}:∀(ks:List LK) (i:Nat) (f:LTs ks→Tree),Du S ad i ks f Q w→
  ∃x:LTs ks,(∀w',S w'→∀j,j<(fq ks x).length→w'.cell? (fa ad (i+j))=(fq ks x)[j]?)∧(fq ks x).length=ks.length∧f x Q w:=by
 intro ks;induction ks with
 |nil=>intro i f h;exact⟨(),by simp[fq],rfl,h⟩
 |cons k ks ih=>
  intro i f h;obtain⟨x,hx,h⟩:=h;obtain⟨y,hy,hl,h⟩:=ih _ _ h;refine⟨_,fun w' hw' j hj=>?_,by simp[fq,hl],h⟩;cases j with
  |zero=>simp[fq,hx w' hw']
  |succ j=>have:=hy w' hw' j (by simpa[fq]using hj);simpa[fq,Nat.add_assoc,Nat.add_comm 1 j]using this
theorem yg{S:World→Prop}{t:TypeId}{ad:Addr}{kd:KD}{f:KT kd→Tree}{Q:Value→World→Prop}{w:World}(hk:ni P t=some kd)(hf:oy P t=true)(h:rb S kd ad f Q w):
  ∃x,(∀w',S w'→(loadVar t ad).run P w'= .ok (kd.val x) w')∧f x Q w:=by
 cases kd with
 |l k=>obtain⟨x,hx,h⟩:=h;refine⟨x,fun w' hw'=>?_,h⟩;simp[loadVar,ki (Gw hk),hx w' hw',KD.val]
 |g ks=>
  obtain⟨x,hx,hl,h⟩:=Dh ks 0 f h;refine⟨x,fun w' hw'=>?_,h⟩;have hn:bZ P t=some ks.length:=by
   unfold oy at hf;rw[hk]at hf;cases hs:bZ P t with
   |none=>rw[hs]at hf;cases hf
   |some n=>rw[hs]at hf;simp at hf;rw[hf]
  have hc:=run_loadCells (P:=P) _ 0 #[] (hx w' hw');simp[loadVar,ki (F7 hk),run_sizeOf hn,loadCells,←hl,hc,KD.val]
theorem Hw(hp:eW P=true){ops:Array Oper}(hs:Region.noSelect ops=true){S:World→Prop}{bar:Option Nat}{K:Env→Tree}{Q:Value→World→Prop}{N:Act→World→Prop}{ws:List Nat}
  (hws:∀o∈ops.toList,∀d,o.dst=some d→d∈ws):∀(l:HT) (env:Env) (a:Act) (w:World) (listed:Array Bool) (fuel:Nat) (c post:Bool),
  l.size≤fuel→my ops bar l listed c post=true→Down ops listed→(post= !o7 bar listed)→(c=false→∀i∈l.cT,i∈Region.ready .any ops listed)→Agree env a.tmps→(o7 bar listed=true→S w)→mS P ops S post l env K Q w→
  (∀env' a' w',Agree env' a'.tmps→mU ws a a'→K env' Q w'→N a' w')→
  if c then iZ P ops (QN N) S bar fuel listed a w
  else∀i∈l.cT,∃f,fuel=f+1∧wpOp P ops (QN N) i (fun a' w'=>(o7 bar (listed.setIfInBounds i true)=true→S w')∧iZ P ops (QN N) S bar f (listed.setIfInBounds i true) a' w') a w:=by
 intro l;induction l generalizing S with
 |cut x ih=>
  intro env a w listed fuel c post hf hB hdn hpb hrd hag hS h hN;obtain⟨S',hsub,hS',h⟩:=h;have:=ih env a w listed fuel c post hf hB hdn hpb hrd hag (fun _=>hS') h hN;cases c with
  |true=>exact oD hsub _ _ _ _ this
  |false=>intro i hi;obtain⟨f,e,hop⟩:=this i hi;exact⟨f,e,wpOp_mono (fun a' w' h'=>⟨fun hb=>hsub _ (h'.1 hb),oD hsub _ _ _ _ h'.2⟩) hop⟩
 |nil=>
  intro env a w listed fuel c post _ hB hdn hpb hrd hag hS h hN;cases c with
  |true=>exact zh (by simpa[my]using hB) (hN _ a w hag (mU.refl _ _) h) _
  |false=>intro i hi;cases hi
 |two x y ihx ihy=>
  intro env a w listed fuel c post hf hB hdn hpb hrd hag hS h hN;simp only[HT.size]at hf;unfold my at hB;simp only[Bool.and_eq_true]at hB;obtain⟨⟨⟨hBne,hB0⟩,hB1⟩,hB2⟩:=hB;have hne:x.cT++y.cT≠[]:=by intro hh;rw[hh]at hBne;simp at hBne
  obtain⟨hx,hy⟩:=h;have hrall:∀i∈x.cT++y.cT,i∈Region.ready .any ops listed:=by
   cases c with
   |false=>exact hrd rfl
   |true=>
    have hr:Region.ready .any ops listed=x.cT++y.cT:=by simpa using hB0
    rw[hr];exact fun i hi=>hi
  have gx:=ihx env a w listed fuel false post ae hB1 hdn hpb (fun _ i hi=>hrall i (List.mem_append_left _ hi)) hag hS hx hN;have gy:=ihy env a w listed fuel false post ae hB2 hdn hpb (fun _ i hi=>hrall i (List.mem_append_right _ hi)) hag hS hy hN;have gall:∀i∈x.cT++y.cT,∃f,fuel=f+1∧wpOp P ops (QN N) i (fun a' w'=>(o7 bar (listed.setIfInBounds i true)=true→S w')∧iZ P ops (QN N) S bar f (listed.setIfInBounds i true) a' w') a w:=by
   intro i hi;rcases List.mem_append.1 hi with hi|hi;·exact gx i hi
   ·exact gy i hi
  cases c with
  |false=>exact gall
  |true=>
   have hr:Region.ready .any ops listed=x.cT++y.cT:=by simpa using hB0
   obtain⟨j,js,hh⟩:=List.exists_cons_of_ne_nil hne;obtain⟨fuel',rfl,_⟩:=gall j (by rw[hh];simp);refine u0 hr hne fun i hi=>?_;obtain⟨f,hff,hop⟩:=gall i hi;have:f=fuel':=by omega
   subst this;exact hop
 |go i b rest ih=>
  intro env a w listed fuel c post hf hB hdn hpb hrd hag hS h hN;obtain⟨fuel,rfl⟩:∃f,fuel=f+1:=⟨fuel-1,by simp[HT.size]at hf;omega⟩;replace h:At Q w (mS P ops S post (.go i b rest) env K):=h;unfold mS at h;unfold my at hB;cases ho:ops.toList[i]? with
  |none=>rw[ho]at hB;cases hB
  |some o=>
  rw[ho]at hB h;dsimp only at h hB;have ho':ops[i]? =some o:=by simpa using ho
  have hwo:=hws o (List.mem_of_getElem? ho);rw[Bool.and_eq_true]at hB;obtain⟨hB1,hB2⟩:=hB;have hf':rest.size≤fuel:=by simp[HT.size]at hf;omega
  have hir:i∈Region.ready .any ops listed:=by
   cases c with
   |false=>exact hrd rfl i (by simp[HT.cT])
   |true=>
    by_cases hq:dn o=true;·rw[if_pos hq]at hB1;simp only[Bool.and_eq_true]at hB1;simpa using hB1.1.1.2
    ·rw[if_neg hq,if_pos rfl,Bool.and_eq_true]at hB1;have hr:Region.ready .any ops listed=[i]:=by simpa using hB1.1
     rw[hr];simp
  have hdn':=hdn.set hir;let G:Prop:=if c then iZ P ops (QN N) S bar (fuel+1) listed a w else∀i'∈(HT.go i b rest).cT,∃f,fuel+1=f+1∧wpOp P ops (QN N) i' (fun a' w'=>(o7 bar (listed.setIfInBounds i' true)=true→S w')∧iZ P ops (QN N) S bar f (listed.setIfInBounds i' true) a' w') a w;have take:∀env e v,dn o=true→Agree env a.tmps→(e.v=none∨e.v=some v)→(YieldsIf P ops (fun _=>True) o v a∨mf o=true∧YieldsIf P ops S o v a)→mS P ops S (post||b) rest (lM env o.dst e) K Q w→
    G:=by
   intro env e v hq hag he hy h;rw[if_pos hq]at hB1;simp only[Bool.and_eq_true]at hB1;obtain⟨⟨⟨⟨⟨hc,hb⟩,hfr⟩,hct⟩,hbar⟩,fh⟩:=hB1;subst hc;have hb:b=false:=by simpa using hb
   subst hb;have hbar:bar≠some i:=by simpa using hbar
   rw[Bool.or_false]at h hB2;have hbs:=o7.set (l:=listed) hbar;have hrest:=ih _ _ _ _ _ true post hf' hB2 hdn' (by rw[hbs];exact hpb) nofun (hag.put he) (by rw[hbs];exact hS) h fun env' a' w' h1 h2 h3=>hN env' a' w' h1 ((mU.put hwo).trans h2) h3;rcases hy with hy|⟨hil,hy⟩;·exact qU ho' (Region.noSelect_spec hs) (fun c a w hh=>hh) hbar (fun _ _ _ _ _=>trivial) fuel listed a w (Region.free_spec ho' hfr) hdn hir hy hS hrest
   ·rw[if_pos hil,Bool.and_eq_true]at fh;refine qU ho' (Region.noSelect_spec hs) (fun c a w hh=>hh) hbar (fun l w' hdl hun hSl=>hSl ?_) fuel listed a w (Region.free_spec ho' hfr) hdn hir hy hS hrest;unfold o7;cases hbb:bar with
    |none=>rfl
    |some j=>
     rw[hbb]at fh;dsimp only at fh⊢;cases hlj:l.getD j false with
     |false=>rfl
     |true=>rw[EL hdl fh.2 hlj]at hun;cases hun
  have loud:∀env,dn o=false→Agree env a.tmps→(Region.wanted o (yielded ops a.tmps)=true∧lx P o env (fun e=>bif post||b then mS P ops S (post||b) rest (lM env o.dst e) K else aZ S (mS P ops S (post||b) rest (lM env o.dst e) K)) Q w∨
    Region.wanted o (yielded ops a.tmps)=false∧mS P ops S (post||b) rest (lM env o.dst uE) K Q w)→G:=by
   intro env hq hag h;rw[if_neg (by simp[hq]),Bool.and_eq_true]at hB1;obtain⟨hB1,hbb⟩:=hB1;have hbb:b=(bar==some i):=by simpa using hbb
   have hpb':(post||b)= !o7 bar (listed.setIfInBounds i true):=by
    by_cases hbi:bar=some i;·subst hbi;rw[o7.at (qg (mem_ready.1 hir).1).1,hbb];simp
    ·rw[o7.set hbi,hbb,hpb];have:(bar==some i)=false:=by simpa using hbi
     rw[this,Bool.or_false]
   have hop:wpOp P ops (QN N) i (fun a' w'=>(o7 bar (listed.setIfInBounds i true)=true→S w')∧iZ P ops (QN N) S bar fuel (listed.setIfInBounds i true) a' w') a w:= ?_
   ·cases c with
    |true=>
     have hr:Region.ready .any ops listed=[i]:=by simpa using hB1
     refine u0 hr bu fun j hj=>?_;simp only[List.mem_singleton]at hj;subst hj;exact hop
    |false=>intro j hj;simp only[HT.cT,List.mem_singleton]at hj;subst hj;exact⟨fuel,rfl,hop⟩
   unfold wpOp;rw[ho'];dsimp only;rcases h with ⟨hw,h⟩|⟨hw,h⟩
   ·rw[if_pos hw];refine .inl (zf hp hag h _ _ fun e v w' he hk=>?_);have hk':(o7 bar (listed.setIfInBounds i true)=true→S w')∧mS P ops S (post||b) rest (lM env o.dst e) K Q w':=by
     cases hpo:post||b with
     |true=>rw[hpo]at hk hpb';exact⟨fun hh=>absurd hpb' (by rw[hh];decide),hk⟩
     |false=>rw[hpo]at hk;exact⟨fun _=>hk.1,hk.2⟩
    exact⟨hk'.1,ih _ _ _ _ _ _ _ hf' hB2 hdn' hpb' nofun (hag.put he) hk'.1 hk'.2 fun env' a' w' h1 h2 h3=>hN env' a' w' h1 ((mU.put hwo).trans h2) h3⟩
   ·rw[if_neg (by simp[hw])];have hS':o7 bar (listed.setIfInBounds i true)=true→S w:=by
     intro hh;apply hS;by_cases hbi:bar=some i;·subst hbi;rw[o7.at (qg (mem_ready.1 hir).1).1]at hh;cases hh
     ·rw[o7.set hbi]at hh;exact hh
    exact⟨hS',ih _ _ _ _ _ _ _ hf' hB2 hdn' hpb' nofun (hag.put (.inr rfl)) hS' h fun env' a' w' h1 h2 h3=>hN env' a' w' h1 ((mU.put hwo).trans h2) h3⟩
  have go:∀env,Agree env a.tmps→Region.wanted o (yielded ops a.tmps)=true→At Q w (match fe P o env with
    |some pt=>pt fun e=>mS P ops S (post||b) rest (lM env o.dst e) K
    |none=>match o.op with
     | .load t x=>if oy P t then match e1 env x,ni P t with
      | .pa a,some kd=>rb S kd a fun r=>mS P ops S (post||b) rest (lM env o.dst (.e (kd.en r))) K
      | .va (.pointer p),some kd=>nn p fun a=>rb S kd a fun r=>mS P ops S (post||b) rest (lM env o.dst (.e (kd.en r))) K
      |_,_=>bad
      else bad
     |_=>lx P o env fun e=>bif post||b then mS P ops S (post||b) rest (lM env o.dst e) K else aZ S (mS P ops S (post||b) rest (lM env o.dst e) K))→G:=by
   intro env hag hw h;split at h
   ·rename_i pt hpt;obtain⟨e,v,he,hr,h⟩:=rO hag hpt _ Q w h;by_cases hq:dn o=true;·exact take _ e v hq hag he (.inl (.inl ⟨hw,fun w' _=>hr w'⟩)) h
    ·unfold fe at hpt;unfold dn at hq;split at hpt<;>first |(rename_i hop;rw[hop]at hq;simp at hq;done)|skip
     ·rename_i c hop;rw[hop]at hq;dsimp only at hq;split at hpt;·rename_i hc;rw[hc]at hq;simp at hq
      ·rename_i hc;rw[hc]at hq;simp at hq
      ·rename_i hc;rw[hc]at hq;simp at hq
      ·rename_i hc;rw[hc]at hq;simp at hq
      ·cases hpt
     ·cases hpt
   ·split at h
    ·rename_i t x hop;have hq:dn o=true:=by unfold dn;rw[hop]
     split at h
     ·rename_i hfit;have key:∀ad kd,a.eval x= .pointer (some ad)→ni P t=some kd→rb S kd ad (fun r=>mS P ops S (post||b) rest (lM env o.dst (.e (kd.en r))) K) Q w→
        G:=by intro ad kd hx hkd h;obtain⟨v,hv,h⟩:=yg hkd hfit h;refine take _ (.e _) _ hq hag (.inr (KD.qR _ v)) (.inr ⟨by unfold mf;rw[hop],.inl ⟨hw,fun w' hw'=>?_⟩⟩) h;simp only[execOp,hop,hx,Instr.loadAt];exact fE (by simpa[Instr.sureAddr]using hv _ hw')
      split at h;·rename_i ad kd hx hkd;exact key _ _ (mE hag (by rw[hx];rfl)) hkd h
      ·rename_i p kd hx hkd;obtain⟨ad,rfl,h⟩:=h;exact key _ _ (mE hag (by rw[hx];rfl)) hkd h
      ·exact h.elim
     ·exact h.elim
    ·rename_i hnl;by_cases hq:dn o=true;·obtain⟨t,x,hop⟩:=wq hq h;exact(hnl t x hop).elim
     ·exact loud _ (by simpa using hq) hag (.inl ⟨hw,h⟩)
  have skip:∀env,Agree env a.tmps→Region.wanted o (yielded ops a.tmps)=false→mS P ops S (post||b) rest (lM env o.dst uE) K Q w→G:=by
   intro env hag hw h;by_cases hq:dn o=true;·exact take _ _ _ hq hag (.inr rfl) (.inl (.inr ⟨hw,rfl⟩)) h
   ·exact loud _ (by simpa using hq) hag (.inr ⟨hw,h⟩)
  split at h;·rename_i hg;exact go _ hag (by simp[Region.wanted,hg]) h
  ·rename_i j want hg;split at h;·exact h.elim
   ·rename_i d hd;have hwant:∀b,(env.getD d nE).v=some (.bool b)→Region.wanted o (yielded ops a.tmps)=(b==want):=by intro b hb;rw[Region.wanted,hg];simp only[oB hag hd hb];cases b<;>cases want<;>rfl
    split at h
    ·rename_i he;have hw:=hwant true (by rw[he];rfl);split at h;·rename_i hwt;exact go _ hag (by simp[hw,hwt]) h
     ·rename_i hwt;exact skip _ hag (by simp[hw,hwt]) h
    ·rename_i he;have hw:=hwant false (by rw[he];rfl);split at h;·rename_i hwt;exact skip _ hag (by simp[hw,hwt]) h
     ·rename_i hwt;exact go _ hag (by simp[hw];simpa using hwt) h
    ·rename_i vs he;refine skip _ hag ?_ h;rw[Region.wanted,hg];simp only[nX hag hd (by rw[he];rfl)];rfl
    ·rename_i b he;have hw:=hwant b (by rw[he];rfl);have hT:b=true→Agree (env.set d (.e .tt)) a.tmps:=fun hb=>k9 hag (by rw[he,hb];rfl) rfl;have hF:b=false→Agree (env.set d (.e .ff)) a.tmps:=fun hb=>k9 hag (by rw[he,hb];rfl) rfl;obtain⟨h1,h2⟩:=h;cases b with
     |true=>
      have h1:=h1 rfl;cases want with
      |true=>exact go _ (hT rfl) (by simp[hw]) h1
      |false=>exact skip _ (hT rfl) (by simp[hw]) h1
     |false=>
      have h2:=h2 rfl;cases want with
      |true=>exact skip _ (hF rfl) (by simp[hw]) h2
      |false=>exact go _ (hF rfl) (by simp[hw]) h2
    ·exact h.elim
theorem jW.step{f:FuncId}{Q:Value→World→Prop}{k k':List Item}{a:Act}{w:World}(hs:∀(b:Frame) (cs:List Frame),step P (lone (b.at a k) cs w)= .next (lone (b.at a k') cs w))
  (h:jW P f Q k' a w):jW P f Q k a w:=by intro hd b cs hk hf;obtain⟨v,w',fr,h1,h2,h3⟩:=h hd b cs hk hf;exact⟨v,w',fr,h1,.head (hs b _) h2,h3⟩
theorem jW.code{f:FuncId}{Q:Value→World→Prop}{c:Code}{k:List Item}{a:Act}{w:World}{N:Act→World→Prop}(hc:c.wp P (QN N) a w)
  (h:∀a' w',a'.defers=a.defers→N a' w'→jW P f Q k a' w') (hdef:∀a' w',N a' w'→a'.defers=a.defers):jW P f Q (.code c::k) a w:=by
 intro hd b cs hk hf;obtain⟨e,a',w',hq,harr⟩:=hc b k cs;cases e with
 |normal=>have hda:=hdef a' w' hq;obtain⟨v,w'',fr,h1,h2,h3⟩:=h a' w' hda hq (hda.trans hd) b cs hk hf;exact⟨v,w'',fr,h1,Steps.trans harr h2,h3⟩
 |_=>exact hq.elim
abbrev R3:=Nat×Nat×Nat
def lb(p:Nat→Bool):Nat→Nat
 |0=>0|n+1=>bif p n then Nat.lor (lb p n) (Nat.pow 2 n)else lb p n
theorem oV(p:Nat→Bool):∀(n i:Nat),(lb p n).testBit i=(decide (i<n)&&p i)
 |0,i=>by show(0:Nat).testBit i=_;simp
 |n+1,i=>by
  have ih:=oV p n i;show(bif p n then(lb p n)|||2^n else lb p n).testBit i=_;cases hp:p n with
  |true=>
   rw[cond_true,Nat.testBit_or,ih,Nat.testBit_two_pow];by_cases e:n=i;·subst e;simp[hp]
   ·have:decide (i<n+1)=decide (i<n):=by rw[decide_eq_decide];omega
    rw[this,decide_eq_false e,Bool.or_false]
  |false=>
   rw[cond_false,ih];by_cases e:n=i;·subst e;simp[hp]
   ·have:decide (i<n+1)=decide (i<n):=by rw[decide_eq_decide];omega
    rw[this]
def vA(m i:Nat):Bool:=Nat.beq (Nat.mod (Nat.shiftRight m i) 2) 1
theorem H7(m i:Nat):vA m i=m.testBit i:=by
 show((m>>>i)%2).beq 1=_;rw[Nat.testBit_eq_decide_div_mod_eq,Nat.shiftRight_eq_div_pow];cases h:((m/2^i)%2).beq 1 with
 |true=>rw[Nat.eq_of_beq_eq_true h];rfl
 |false=>exact(decide_eq_false (Nat.ne_of_beq_eq_false h)).symm
def I5(a m:Nat):Bool:=Nat.beq (Nat.land a m) a
theorem zi{a m i:Nat}(h:I5 a m=true)(hi:a.testBit i=true):m.testBit i=true:=by have e:a&&& m=a:=Nat.eq_of_beq_eq_true h;have g:=hi;rw[←e,Nat.testBit_and,hi,Bool.true_and]at g;exact g
def mH(o:Oper)(j:Nat):Bool:=o.after.toList.any fun e=>Region.binds .any e&&Nat.beq e.on j
def B4(ops:Array Oper)(i:Nat)(o:Oper)(j:Nat):Bool:= !Nat.beq j i&&match ops.toList[j]? with
 |some oj=> !(mH oj i||o.apart ops oj)|none=>false
def rowOf(ops:Array Oper)(bar:Option Nat)(n i:Nat):R3:=match ops.toList[i]? with
 |none=>(0,0,0)
 |some o=>(Nat.lor (bif dn o then 1 else 0) (Nat.lor (bif mf o then 2 else 0) (Nat.lor (bif (match bar with |none=>true|some j=>bif mf o then y8 ops n i j else true)then 4 else 0) (bif (o.after.toList.all fun e=> !Region.binds .any e||Nat.blt e.on n)then 8 else 0))),
   lb (mH o) n,bif dn o then lb (B4 ops i o) n else 0)
def rowsOf(ops:Array Oper)(bar:Option Nat):List R3:=(List.range ops.size).map (rowOf ops bar ops.size)
noncomputable def LZ(n:Nat)(k:Nat→Bool):Bool:=Nat.rec (motive:=fun _=>Bool) (k 0) (fun m _=>k (Nat.succ m)) n
theorem BN(n:Nat)(k:Nat→Bool):LZ n k=k n:=by cases n<;>rfl
noncomputable def Ji:List R3→(List R3→Bool)→Bool
 |[],k=>k []|r::rs,k=>LZ r.1 fun a=>LZ r.2.1 fun b=>LZ r.2.2 fun c=>Ji rs fun rs'=>k ((a,b,c)::rs')
theorem Cg:∀(rs:List R3) (k:List R3→Bool),Ji rs k=k rs
 |[],_=>rfl
 |r::rs,k=>by unfold Ji;rw[BN,BN,BN,Cg rs]
def AZ(r:R3)(i m:Nat):Bool:=vA r.1 3&& !vA m i&&I5 r.2.1 m
def xS:List R3→Nat→Nat→List Nat
 |[],_,_=>[]|r::rs,i,m=>bif AZ r i m then i::xS rs (Nat.succ i) m else xS rs (Nat.succ i) m
def LO:List Nat→List Nat→Bool
 |[],[]=>true|a::l,b::l'=>Nat.beq a b&&LO l l'|_,_=>false
theorem AS:∀{l l':List Nat},LO l l'=true→l=l'
 |[],[],_=>rfl
 |[],_::_,h=>by cases h
 |_::_,[],h=>by cases h
 |a::l,b::l',h=>by unfold LO at h;rw[Bool.and_eq_true]at h;rw[Nat.eq_of_beq_eq_true h.1,AS h.2]
def K8:List R3→Nat→Option R3
 |[],_=>none|r::rs,i=>Nat.rec (motive:=fun _=>Option R3) (some r) (fun m _=>K8 rs m) i
theorem Cv:∀(rs:List R3) (i:Nat),K8 rs i=rs[i]?
 |[],_=>rfl
 |_::_,0=>rfl
 |_::rs,i+1=>(Cv rs i).trans (by simp)
def Cs(bar:Option Nat)(i:Nat):Bool:=match bar with |none=>false|some j=>Nat.beq j i
def rW(rows:List R3)(bar:Option Nat):HT→Nat→Bool→Bool→Bool
 | .nil,m,_,_=>(xS rows 0 m).isEmpty
 | .cut x,m,c,post=>rW rows bar x m c post
 | .two x y,m,c,post=> !(x.cT++y.cT).isEmpty&&((bif c then LO (xS rows 0 m) (x.cT++y.cT)else true)&&(rW rows bar x m false post&&rW rows bar y m false post))
 | .go i b rest,m,c,post=>match K8 rows i with
  |none=>false
  |some r=>(bif vA r.1 0 then c&&(!b&&(I5 r.2.2 m&&(AZ r i m&&(!Cs bar i&&(bif vA r.1 1 then !post&&vA r.1 2 else true)))))
   else(bif c then LO (xS rows 0 m) [i]else true)&&(bif b then Cs bar i else !Cs bar i))&&rW rows bar rest (Nat.lor m (Nat.pow 2 i)) true (post||b)
noncomputable def Fk(ops:Array Oper)(bar:Option Nat)(l:HT):Bool:=Ji (rowsOf ops bar) fun rows=>rW rows bar l 0 true false
theorem rN{ops:Array Oper}{bar:Option Nat}{n i:Nat}{o:Oper}(ho:ops.toList[i]? =some o):vA (rowOf ops bar n i).1 0=dn o∧vA (rowOf ops bar n i).1 1=mf o∧vA (rowOf ops bar n i).1 2=(match bar with |none=>true|some j=>bif mf o then y8 ops n i j else true)∧
  vA (rowOf ops bar n i).1 3=(o.after.toList.all fun e=> !Region.binds .any e||Nat.blt e.on n)∧(rowOf ops bar n i).2.1=lb (mH o) n∧(rowOf ops bar n i).2.2=bif dn o then lb (B4 ops i o) n else 0:=by unfold rowOf;rw[ho];dsimp only;generalize(match bar with |none=>true|some j=>bif mf o then y8 ops n i j else true)=q2;generalize(o.after.toList.all fun e=> !Region.binds .any e||Nat.blt e.on n)=q3;generalize mf o=q1;refine⟨?_,?_,?_,?_,rfl,rfl⟩<;>cases dn o<;>cases q1<;>cases q2<;>cases q3<;>rfl
def Lm(n:Nat)(listed:Array Bool)(m:Nat):Prop:=listed.size=n∧∀i,i<n→listed.getD i true=m.testBit i∧listed.getD i false=m.testBit i
theorem Lm.set{n:Nat}{listed:Array Bool}{m i:Nat}(h:Lm n listed m)(hi:i<n):Lm n (listed.setIfInBounds i true) (Nat.lor m (Nat.pow 2 i)):=by
 refine⟨by rw[Array.size_setIfInBounds];exact h.1,fun j hj=>?_⟩;obtain⟨h1,h2⟩:=h.2 j hj;have hs:=h.1;by_cases e:i=j
 ·subst e;have:i<listed.size:=by omega
  simp[this]
 ·simp[e];exact⟨by simpa using h1,by simpa using h2⟩
theorem Lm.start(n:Nat):Lm n (Array.replicate n false) 0:=by refine⟨Array.size_replicate,fun i hi=>?_⟩;simp[Array.getD_eq_getD_getElem?,Array.getElem?_replicate,hi]
section
variable{ops:Array Oper}{bar:Option Nat}{listed:Array Bool}{m:Nat}
theorem tT{i:Nat}{o:Oper}(hL:Lm ops.size listed m)(hi:i<ops.size)(ho:ops.toList[i]? =some o):AZ (rowOf ops bar ops.size i) i m=(!listed.getD i true&&((ops[i]?).map (·.after.all fun e=> !Region.binds .any e||listed.getD e.on false)).getD false):=by
 obtain⟨_,_,_,f3,f4,_⟩:=rN (bar:=bar) (n:=ops.size) ho;have ho':ops[i]? =some o:=by simpa using ho
 unfold AZ;rw[f3,f4,H7,←(hL.2 i hi).1,ho',Option.map_some,Option.getD_some];rw[Bool.and_comm (o.after.toList.all _),Bool.and_assoc];congr 1;rw[←Array.all_toList];rw[Bool.eq_iff_iff,Bool.and_eq_true,List.all_eq_true,List.all_eq_true];constructor
 ·rintro⟨h1,h2⟩ e he;have g:=h1 e he;rw[Bool.or_eq_true]at g⊢;cases hb:Region.binds .any e with
  |false=>exact .inl rfl
  |true=>
   right;rw[hb]at g;have hlt:e.on<ops.size:=by
    rcases g with g|g;·cases g
    ·exact Nat.le_of_ble_eq_true g
   rw[(hL.2 _ hlt).2];apply zi h2;rw[oV,decide_eq_true hlt,Bool.true_and];unfold mH;rw[List.any_eq_true];exact⟨e,he,by rw[hb,Bool.true_and];exact Nat.beq_refl _⟩
 ·intro h;refine⟨fun e he=>?_,?_⟩
  ·have g:=h e he;rw[Bool.or_eq_true]at g⊢;refine g.imp_right fun g=>Nat.ble_eq_true_of_le ?_;rcases Nat.lt_or_ge e.on ops.size with g'|g';·exact g'
   ·rw[Array.getD_eq_getD_getElem?,Array.getElem?_eq_none (by rw[hL.1];exact g')]at g;cases g
  ·show Nat.beq (lb (mH o) ops.size&&& m) (lb (mH o) ops.size)=true;have:lb (mH o) ops.size&&& m=lb (mH o) ops.size:=by
    refine Nat.eq_of_testBit_eq fun j=>?_;rw[Nat.testBit_and];cases hj:(lb (mH o) ops.size).testBit j with
    |false=>rfl
    |true=>rw[oV,Bool.and_eq_true,decide_eq_true_iff]at hj;obtain⟨hj1,hj2⟩:=hj;unfold mH at hj2;rw[List.any_eq_true]at hj2;obtain⟨e,he,g⟩:=hj2;rw[Bool.and_eq_true]at g;have:=Nat.eq_of_beq_eq_true g.2;subst this;have g2:=h e he;rw[g.1]at g2;rw[←(hL.2 _ hj1).2];exact g2
   rw[this];exact Nat.beq_refl _
theorem yO(f:Nat→R3)(m:Nat):∀(k i:Nat),xS ((List.range' i k).map f) i m=(List.range' i k).filter fun j=>AZ (f j) j m
 |0,_=>rfl
 |k+1,i=>by rw[List.range'_succ,List.map_cons,List.filter_cons];show(bif AZ (f i) i m then i::xS ((List.range' (i+1) k).map f) (i+1) m else xS ((List.range' (i+1) k).map f) (i+1) m)=_;rw[yO f m k (i+1)];cases AZ (f i) i m<;>rfl
theorem xo(hL:Lm ops.size listed m):xS (rowsOf ops bar) 0 m=Region.ready .any ops listed:=by
 unfold rowsOf Region.ready;rw[List.range_eq_range',yO];refine List.filter_congr fun i hi=>?_;have hi:i<ops.size:=by simpa using hi
 exact tT hL hi (by rw[Array.getElem?_toList];exact Array.getElem?_eq_getElem hi)
theorem JD{i:Nat}{o:Oper}(hL:Lm ops.size listed m)(hi:i<ops.size)(ho:ops.toList[i]? =some o)(hq:dn o=true)(h:I5 (rowOf ops bar ops.size i).2.2 m=true):Region.free .any ops listed i=true:=by
 obtain⟨_,_,_,_,_,f5⟩:=rN (bar:=bar) (n:=ops.size) ho;rw[f5,hq,cond_true]at h;have ho':ops[i]? =some o:=by simpa using ho
 unfold Region.free;rw[ho'];rw[List.all_eq_true];intro j hj;have hj:j<ops.size:=by simpa using hj
 rw[Bool.or_eq_true,Bool.or_eq_true];by_cases e:j=i;·exact .inl (.inl (by simpa using e))
 ·cases hl:listed.getD j true with
  |true=>exact .inl (.inr rfl)
  |false=>
   right;have hoj:=Array.getElem?_eq_getElem hj;rw[hoj];dsimp only;cases hx:((ops[j].after.any fun e=>Region.binds .any e&&e.on==i)||o.apart ops ops[j])with
   |true=>rfl
   |false=>
    rw[Bool.or_eq_false_iff]at hx;have:(lb (B4 ops i o) ops.size).testBit j=true:=by
     rw[oV,decide_eq_true hj,Bool.true_and];unfold B4;rw[show ops.toList[j]? =some ops[j] by rw[Array.getElem?_toList];exact hoj];dsimp only;have hw:mH ops[j] i=false:=by
      cases hw:mH ops[j] i with
      |false=>rfl
      |true=>unfold mH at hw;rw[List.any_eq_true]at hw;obtain⟨e,he,g⟩:=hw;rw[Bool.and_eq_true]at g;have:=hx.1;rw[←Array.any_toList,List.any_eq_false]at this;exact absurd (by rw[g.1,Nat.eq_of_beq_eq_true g.2];simp) (this e he)
     rw[hw,hx.2];have:Nat.beq j i=false:=by
      cases hb:Nat.beq j i with
      |false=>rfl
      |true=>exact absurd (Nat.eq_of_beq_eq_true hb) e
     rw[this];rfl
    have:=zi h this;rw[←(hL.2 j hj).1,hl]at this;cases this
theorem za(bar:Option Nat)(i:Nat):Cs bar i=(bar==some i):=by
 cases bar with
 |none=>rfl
 |some j=>
  show Nat.beq j i=(some j==some i);cases h:Nat.beq j i with
  |true=>rw[Nat.eq_of_beq_eq_true h];simp
  |false=>have:=Nat.ne_of_beq_eq_false h;simp[this]
theorem nT:∀(l:HT) (listed:Array Bool) (m:Nat) (c post:Bool),Lm ops.size listed m→rW (rowsOf ops bar) bar l m c post=true→my ops bar l listed c post=true
 | .nil,listed,m,c,post,hL,h=>by unfold my;rw[←xo (bar:=bar) hL];exact h
 | .cut x,listed,m,c,post,hL,h=>nT x listed m c post hL h
 | .two x y,listed,m,c,post,hL,h=>by
  unfold rW at h;unfold my;rw[Bool.and_eq_true,Bool.and_eq_true,Bool.and_eq_true]at h;obtain⟨h1,h2,h3,h4⟩:=h;rw[h1,nT x listed m false post hL h3,nT y listed m false post hL h4,Bool.and_true,Bool.and_true,Bool.true_and];cases c with
  |false=>rfl
  |true=>rw[if_pos rfl,←xo (bar:=bar) hL,AS h2];simp
 | .go i b rest,listed,m,c,post,hL,h=>by
  unfold rW at h;unfold my;rw[Cv]at h;cases hr:(rowsOf ops bar)[i]? with
  |none=>rw[hr]at h;cases h
  |some r=>
   rw[hr]at h;have hi:i<ops.size:=by have:=(List.getElem?_eq_some_iff.mp hr).1;unfold rowsOf at this;simpa using this
   have hrr:r=rowOf ops bar ops.size i:=by unfold rowsOf at hr;rw[List.getElem?_map,List.getElem?_range hi]at hr;injection hr with hr;exact hr.symm
   subst hrr;have ho:ops.toList[i]? =some ops[i]:=by rw[Array.getElem?_toList];exact Array.getElem?_eq_getElem _
   rw[ho];rw[Bool.and_eq_true]at h⊢;obtain⟨h1,h2⟩:=h;refine⟨?_,nT _ _ _ _ _ (hL.set hi) h2⟩;obtain⟨f0,f1,f2,_,_,_⟩:=rN (bar:=bar) (n:=ops.size) ho;rw[f0,f1,f2]at h1;cases hq:dn ops[i]with
   |true=>
    rw[hq,cond_true]at h1;simp only[Bool.and_eq_true]at h1;obtain⟨g1,g2,g3,g4,g5,g6⟩:=h1;have hfree:=JD hL hi ho hq g3;have hrdy:(Region.ready .any ops listed).contains i=true:=by rw[List.contains_iff_mem];unfold Region.ready;rw[List.mem_filter];exact⟨by simpa using hi,by rw[←tT hL hi ho];exact g4⟩
    have hb:(bar != some i)=true:=by rw[za]at g5;simpa[bne]using g5
    rw[g1,g2,hfree,hrdy,hb];cases hl:mf ops[i]with
    |false=>rfl
    |true=>
     rw[hl,cond_true,Bool.and_eq_true]at g6;rw[if_pos rfl,g6.1,Bool.true_and];have g:=g6.2;cases bar with
     |none=>rfl
     |some j=>exact g
   |false=>
    rw[hq,cond_false,Bool.and_eq_true]at h1;rw[if_neg bu,Bool.and_eq_true];refine⟨?_,?_⟩
    ·cases c with
     |false=>rfl
     |true=>rw[if_pos rfl,←xo (bar:=bar) hL,AS h1.1];simp
    ·have g:=h1.2;rw[za]at g;cases b with
     |true=>rw[cond_true]at g;rw[g];rfl
     |false=>rw[cond_false,Bool.not_eq_true']at g;rw[g];rfl
theorem Ed{l:HT}(h:Fk ops bar l=true):my ops bar l (Array.replicate ops.size false) true false=true:=by unfold Fk at h;rw[Cg]at h;exact nT l _ 0 _ _ (Lm.start _) h
end
noncomputable def xa(ops:Array Oper)(d:Bool)(m:Mode):Bool:=
 if d then match m with
  | .quiet=>Region.lexB .any ops&&ops.toList.all dn
  | .tail n=>Region.lexTailB .any ops n&&(ops.toList.take n).all dn
  | .held bar l=>Region.noSelect ops&&decide (l.size≤ops.size)&&Fk ops bar l
 else true
noncomputable def p7(T:az):Code→Bool
 | .region id ops d=>xa ops d (T.mode id)
 | .seq a b| .cond _ a b=>p7 T a&&p7 T b
 | .block _ c| .loop c| .scope c=>p7 T c
 |_=>true
theorem De(hp:eW P=true)(hm:P.follows .mixedOrders=true){T:az}{id:Nat}{ops:Array Oper}{d:Bool}(hB:xa ops d (T.mode id)=true){env:Env}{a:Act}{w:World}{K:K3}
  {Q:Value→World→Prop} (hag:Agree env a.tmps) (h:den P T (.region id ops d) env K Q w) {N:Act→World→Prop}
  (hN:∀env' a' w',Agree env' a'.tmps→mU (writes (.region id ops d)) a a'→K.norm env' Q w'→N a' w'):(Code.region id ops d).wp P (QN N) a w:=by
 have hws:∀o∈ops.toList,∀d',o.dst=some d'→d'∈writes (.region id ops d):=by intro o ho d' hd';simp only[writes,List.mem_filterMap];exact⟨o,ho,hd'⟩
 cases d with
 |false=>exact wp_region_list (B8 hp _ _ _ _ hws hag h hN)
 |true=>
  unfold xa at hB;rw[if_pos rfl]at hB;unfold den at h;cases hmd:T.mode id with
  |quiet=>
   rw[hmd]at hB h;replace h:nK P ops (ops.toList++[]) env K.norm Q {w with drawn:=w.drawn+1}:=by rw[List.append_nil];exact h
   rw[Bool.and_eq_true]at hB;have hst:=vo ops.toList env a hws hB.2 hag h;apply wp_region_still hm hB.1;have mono:∀(l:List Oper) (a:Act) (A B:Act→Prop),(∀a,A a→B a)→wpStill P ops {w with drawn:=w.drawn+1} A l a→wpStill P ops {w with drawn:=w.drawn+1} B l a:=by
    intro l;induction l with
    |nil=>intro a A B h hA;exact h a hA
    |cons o l ih=>
     intro a A B h hA;unfold wpStill at hA⊢;split
     ·rename_i hw;rw[if_pos hw]at hA;unfold Oper.still at hA⊢;generalize(execOp a.eval o).run P {w with drawn:=w.drawn+1}=r at hA;unfold Oper.stillUpon at hA⊢;split;·exact⟨hA.1,ih _ _ _ h hA.2⟩
      ·exact⟨hA.1,ih _ _ _ h hA.2⟩
      ·obtain⟨h1,v,h2,h3⟩:=hA;exact⟨h1,v,h2,ih _ _ _ h h3⟩
      ·rename_i r h1 h2 h3;split at hA;·exact(h1 _ _ rfl).elim
       ·exact(h2 _ rfl).elim
       ·exact(h3 _ _ _ rfl).elim
       ·exact hA.elim
     ·rename_i hw;rw[if_neg hw]at hA;exact ih _ _ _ h hA
   exact mono _ _ _ _ (fun a' ⟨env',h1,h2,h3⟩=>hN env' a' _ h1 h2 h3) hst
  |tail n=>
   rw[hmd]at hB h;replace h:nK P ops (ops.toList.take n++ops.toList.drop n) env K.norm Q {w with drawn:=w.drawn+1}:=by rw[List.take_append_drop];exact h
   rw[Bool.and_eq_true]at hB;have hst:=vo _ env a (fun o ho=>hws o (List.mem_of_mem_take ho)) hB.2 hag h;have hB1:=hB.1;have hw:=wp_region_still_tail (id:=id) (Q:=QN N) (a:=a) (w:=w) n hm (by exact hB1) ?_;·exact hw
   ·have mono:∀(l:List Oper) (a:Act) (A B:Act→Prop),(∀a,A a→B a)→wpStill P ops {w with drawn:=w.drawn+1} A l a→wpStill P ops {w with drawn:=w.drawn+1} B l a:=by
     intro l;induction l with
     |nil=>intro a A B h hA;exact h a hA
     |cons o l ih=>
      intro a A B h hA;unfold wpStill at hA⊢;split
      ·rename_i hw;rw[if_pos hw]at hA;unfold Oper.still at hA⊢;generalize(execOp a.eval o).run P {w with drawn:=w.drawn+1}=r at hA;unfold Oper.stillUpon at hA⊢;split;·exact⟨hA.1,ih _ _ _ h hA.2⟩
       ·exact⟨hA.1,ih _ _ _ h hA.2⟩
       ·obtain⟨h1,v,h2,h3⟩:=hA;exact⟨h1,v,h2,ih _ _ _ h h3⟩
       ·rename_i r h1 h2 h3;split at hA;·exact(h1 _ _ rfl).elim
        ·exact(h2 _ rfl).elim
        ·exact(h3 _ _ _ rfl).elim
        ·exact hA.elim
      ·rename_i hw;rw[if_neg hw]at hA;exact ih _ _ _ h hA
    refine mono _ _ _ _ (fun a' ⟨env',h1,h2,h3⟩=>?_) hst;exact B8 hp _ _ _ _ (fun o ho=>hws o (List.mem_of_mem_drop ho)) h1 h3 fun env'' a'' w'' g1 g2 g3=>hN env'' a'' w'' g1 (h2.trans g2) g3
  |held bar l=>rw[hmd]at hB h;simp only[Bool.and_eq_true,decide_eq_true_eq]at hB;obtain⟨⟨hs,hl⟩,hB⟩:=hB;obtain⟨S,hS,h⟩:=h;exact yS hm (Hw hp hs hws l _ a _ _ _ _ _ hl (Ed hB) (Down.start _) (o7.start _ _) nofun hag (fun _=>hS) h hN)
theorem uH(ts:List Nat):∀(env:Env) (i:Nat),(sQ env ts).has i=env.has i:=by
 induction ts with
 |nil=>intro env i;rfl
 |cons t ts ih=>intro env i;show(sQ (env.set t nE) ts).has i=_;rw[ih,Env.km]
theorem la{ts:List Nat}{env:Env}{i:Nat}:(i∈ts→((sQ env ts).getD i nE).v=none)∧(i∉ts→(sQ env ts).getD i nE=env.getD i nE):=by
 induction ts generalizing env with
 |nil=>simp[sQ]
 |cons t ts ih=>
  simp only[sQ];obtain⟨h2,h3⟩:=ih (env:=env.set t nE);refine⟨fun hi=>?_,fun hi=>?_⟩
  ·by_cases hm:i∈ts;·exact h2 hm
   ·rw[h3 hm,Env.jP];have:i=t:=by simpa[hm]using hi
    subst this;split;·rfl
    ·rename_i hlt;rw[Env.mw env i (by simpa using hlt)];rfl
  ·simp only[List.mem_cons,not_or]at hi;rw[h3 hi.2,Env.jP,if_neg (by rintro⟨rfl,_⟩;exact hi.1 rfl)]
theorem pJ{a:Act}:∀(rX:List (Nat×LK)) (env env':Env) (s:LTs (rX.map (·.2))),Agree env' a.tmps→ob env' rX=some s→Agree env a.tmps→Agree (mX rX s env) a.tmps:=by
 intro rX;induction rX with
 |nil=>intro env env' s _ _ hag;exact hag
 |cons p rX ih=>
  obtain⟨t,k⟩:=p;intro env env' s hag' hu hag;unfold ob at hu;split at hu
  ·rename_i x hx;split at hu
   ·rename_i v vs hv hvs;cases hu;apply ih _ _ _ hag' hvs;have lC:x.v=some (k.val v):=by
     unfold E1.JN at hv;split at hv
     ·split at hv;·rename_i hk;subst hk;cases hv;rfl
      ·cases hv
     all_goals first |(cases hv;rfl)|cases hv
    have hat:=hag'.bM t _ (by rw[hx];exact lC);refine⟨fun i hi=>hag.size i (by rwa [Env.km]at hi),fun i u hu=>?_⟩;rw[Env.jP]at hu;split at hu;·rename_i hi;obtain⟨rfl,_⟩:=hi;have:(En.e _).v=some _:=LK.qR k v;rw[this]at hu;cases hu;exact hat
    ·exact hag.bM i u hu
   ·cases hu
  ·cases hu
theorem KB(hp:eW P=true)(hm:P.follows .mixedOrders=true){T:az}{f:FuncId}{Q:Value→World→Prop}:∀(c:Code) (env:Env) (K:K3) (k:List Item) (a:Act) (w:World),
  p7 T c=true→Agree env a.tmps→den P T c env K Q w→
  (∀env' a' w',Agree env' a'.tmps→mU (writes c) a a'→K.norm env' Q w'→jW P f Q k a' w')→
  (∀id env' a' w',Agree env' a'.tmps→mU (writes c) a a'→K.exit id env' Q w'→∃k',exitTo id k=some k'∧jW P f Q k' a' w')→
  (∀env' a' w' k',Agree env' a'.tmps→mU (writes c) a a'→K.ret env' Q w'→jW P f Q (.code .ret::k') a' w')→
  jW P f Q (.code c::k) a w:=by
 intro c;induction c with
 |skip=>intro env K k a w _ hag h hn _ _;exact jW.step (fun b cs=>step_skip) (hn env a w hag (mU.refl _ _) h)
 |region id ops d=>intro env K k a w hB hag h hn _ _;refine jW.code (N:=fun a' w'=>a'.defers=a.defers∧jW P f Q k a' w') (De hp hm hB hag h fun env' a' w' h1 h2 h3=>⟨h2.2.1,hn env' a' w' h1 h2 h3⟩) (fun a' w' _ h=>h.2) (fun a' w' h=>h.1)
 |seq x y ihx ihy=>
  intro env K k a w hB hag h hn he hr;simp only[p7,Bool.and_eq_true]at hB;have hx:∀i,i∈writes x→i∈writes (.seq x y):=fun i hi=>by simp[writes,hi]
  have hy:∀i,i∈writes y→i∈writes (.seq x y):=fun i hi=>by simp[writes,hi]
  have rest:∀env' a' w',Agree env' a'.tmps→mU (writes x) a a'→den P T y env' K Q w'→jW P f Q (.code y::k) a' w':=by
   intro env' a' w' h1 h2 h3;exact ihy env' K k a' w' hB.2 h1 h3 (fun env'' a'' w'' g1 g2 g3=>hn env'' a'' w'' g1 ((h2.mono hx).trans (g2.mono hy)) g3)
    (fun id env'' a'' w'' g1 g2 g3=>he id env'' a'' w'' g1 ((h2.mono hx).trans (g2.mono hy)) g3)
    (fun env'' a'' w'' k' g1 g2 g3=>hr env'' a'' w'' k' g1 ((h2.mono hx).trans (g2.mono hy)) g3)
  have hex:∀id env' a' w',Agree env' a'.tmps→mU (writes x) a a'→K.exit id env' Q w'→∃k',exitTo id (.code y::k)=some k'∧jW P f Q k' a' w':=by intro id env' a' w' h1 h2 h3;obtain⟨k',hk',hrun⟩:=he id env' a' w' h1 (h2.mono hx) h3;exact⟨k',by simpa[exitTo]using hk',hrun⟩
  have hrt:∀env' a' w' k',Agree env' a'.tmps→mU (writes x) a a'→K.ret env' Q w'→jW P f Q (.code .ret::k') a' w':=
   fun env' a' w' k' h1 h2 h3=>hr env' a' w' k' h1 (h2.mono hx) h3;replace h:At Q w (den P T (.seq x y) env K):=h;unfold den at h;split at h;·exact jW.step (fun b cs=>step_seq) (ihx env _ _ a w hB.1 hag h rest hex hrt)
  ·rename_i rX _;refine jW.step (fun b cs=>step_seq) (ihx env _ _ a w hB.1 hag h ?_ hex hrt);intro env' a' w' h1 h2 h3;replace h3:At Q w' (match ob env' rX with |some s'=>den P T y (mX rX s' (sQ env (writes x))) K|none=>bad):=h3;split at h3
   ·rename_i s' hs';refine rest _ _ _ (pJ _ _ _ _ h1 hs' ⟨fun i hi=>by rw[h2.1];exact hag.size i (by rwa [uH]at hi),fun i u hu=>?_⟩) h2 h3;by_cases hi:i∈writes x;·rw[((la (ts:=writes x) (env:=env) (i:=i)).1 hi)]at hu;cases hu
    ·rw[(la (ts:=writes x) (env:=env) (i:=i)).2 hi]at hu;rw[h2.2.2 i hi];exact hag.bM i u hu
   ·exact h3.elim
 |cond c x y ihx ihy=>
  intro env K k a w hB hag h hn he hr;simp only[p7,Bool.and_eq_true]at hB;have hx:∀i,i∈writes x→i∈writes (.cond c x y):=fun i hi=>by simp[writes,hi]
  have hy:∀i,i∈writes y→i∈writes (.cond c x y):=fun i hi=>by simp[writes,hi]
  have gx:a.eval c= .bool true→den P T x env K Q w→jW P f Q (.code (.cond c x y)::k) a w:=fun hc h=>
   jW.step (fun b cs=>step_cond hc) (ihx env K k a w hB.1 hag h (fun env' a' w' h1 h2 h3=>hn env' a' w' h1 (h2.mono hx) h3)
    (fun id env' a' w' h1 h2 h3=>he id env' a' w' h1 (h2.mono hx) h3) (fun env' a' w' k' h1 h2 h3=>hr env' a' w' k' h1 (h2.mono hx) h3));have gy:a.eval c= .bool false→den P T y env K Q w→jW P f Q (.code (.cond c x y)::k) a w:=fun hc h=>
   jW.step (fun b cs=>step_cond hc) (ihy env K k a w hB.2 hag h (fun env' a' w' h1 h2 h3=>hn env' a' w' h1 (h2.mono hy) h3)
    (fun id env' a' w' h1 h2 h3=>he id env' a' w' h1 (h2.mono hy) h3) (fun env' a' w' k' h1 h2 h3=>hr env' a' w' k' h1 (h2.mono hy) h3));replace h:At Q w (den P T (.cond c x y) env K):=h;unfold den at h;split at h;·rename_i hc;exact gx (mE hag (by rw[hc];rfl)) h
  ·rename_i hc;exact gy (mE hag (by rw[hc];rfl)) h
  ·rename_i b hc;have hv:a.eval c= .bool b:=mE hag (by rw[hc];rfl);cases b with
   |true=>exact gx hv (h.1 rfl)
   |false=>exact gy hv (h.2 rfl)
  ·exact h.elim
 |block id c ih=>
  intro env K k a w hB hag h hn he hr;refine jW.step (fun b cs=>step_block) (ih env _ _ a w hB hag h ?_ ?_ ?_);·intro env' a' w' h1 h2 h3;exact jW.step (fun b cs=>step_inBlock) (hn env' a' w' h1 h2 h3)
  ·intro i env' a' w' h1 h2 h3;replace h3:At Q w' (if i=id then K.norm env' else K.exit i env'):=h3;split at h3;·rename_i hi;subst hi;exact⟨k,by simp[exitTo],hn _ _ _ h1 h2 h3⟩
   ·rename_i hi;obtain⟨k',hk',hrun⟩:=he i env' a' w' h1 h2 h3;refine⟨k',?_,hrun⟩;have:(id==i)=false:=by simp;exact fun h=>hi h.symm
    simp[exitTo,this,hk']
  ·intro env' a' w' k' h1 h2 h3;exact hr env' a' w' k' h1 h2 h3
 |loop c ih=>
  intro env K k a w hB hag h hn he hr;replace h:At Q w (den P T (.loop c) env K):=h;unfold den at h;split at h;·exact h.elim
  ·rename_i s hs;let X:LTs ((se T c).map (·.2))→World→Prop:=fun s w=>∀a',Agree (mX (se T c) s (sQ env (writes c))) a'.tmps→mU (writes (.loop c)) a a'→jW P f Q (.inLoop c::k) a' w;have hX:X s w:=by
    refine h X fun s w hbody a' hag' hoff=>jW.step (fun b cs=>step_inLoop) (ih _ _ (.inLoop c::k) a' w hB hag' hbody ?_ ?_ ?_)
    ·intro env' a'' w' h1 h2 h3;replace h3:At Q w' (match ob env' (se T c)with |some s'=>fun _ w'=>X s' w'|none=>bad):=h3;split at h3
     ·rename_i s' hs';refine h3 _ (pJ _ _ _ _ h1 hs' ?_) (hoff.trans h2);refine⟨fun i hi=>by rw[h2.1,hoff.1];exact hag.size i (by rwa [uH]at hi),fun i u hu=>?_⟩;by_cases hi:i∈writes c;·have:=((la (ts:=writes c) (env:=env) (i:=i)).1 hi);rw[this]at hu;cases hu
      ·rw[(la (ts:=writes c) (env:=env) (i:=i)).2 hi]at hu;rw[(hoff.trans h2).2.2 i (by simpa[writes]using hi)];exact hag.bM i u hu
     ·exact h3.elim
    ·intro id env' a'' w' h1 h2 h3;obtain⟨k',hk',hrun⟩:=he id env' a'' w' h1 (hoff.trans h2) h3;exact⟨k',by simpa[exitTo]using hk',hrun⟩
    ·intro env' a'' w' k' h1 h2 h3;exact hr env' a'' w' k' h1 (hoff.trans h2) h3
   have h0:Agree (mX (se T c) s (sQ env (writes c))) a.tmps:=by
    refine pJ _ _ _ s hag hs ⟨fun i hi=>hag.size i (by rwa [uH]at hi),fun i u hu=>?_⟩;by_cases hi:i∈writes c;·rw[((la (ts:=writes c) (env:=env) (i:=i)).1 hi)]at hu;cases hu
    ·rw[(la (ts:=writes c) (env:=env) (i:=i)).2 hi]at hu;exact hag.bM i u hu
   have hrun:=hX a h0 (mU.refl _ _);intro hd b cs hk hf;obtain⟨v,w',fr,h1,h2,h3⟩:=hrun hd b cs hk hf;obtain⟨n,hn2⟩:=h2;cases n with
   |zero=>
    simp only[runN,Stepped.next.injEq]at hn2;obtain⟨h4,h5⟩:=h3;have:fr=b.at a (.inLoop c::k)∧w'=w:=by simp only[lone,Machine.mk.injEq]at hn2;obtain⟨g1,g2,_⟩:=hn2;simp at g2;exact⟨g2.symm,g1.symm⟩
    rw[this.1]at h5;have hmode:=h5.1;simp[Frame.at]at hmode
   |succ n=>refine⟨v,w',fr,h1,?_,h3⟩;refine .head step_loop ⟨n,?_⟩;simp only[runN,step_inLoop]at hn2;exact hn2
 |exit i=>intro env K k a w _ hag h _ he _;obtain⟨k',hk',hrun⟩:=he i env a w hag (mU.refl _ _) h;exact jW.step (fun b cs=>step_exit hk') hrun
 |ret=>intro env K k a w _ hag h _ _ hr;exact hr _ a w k hag (mU.refl _ _) h
 |scope c _=>intro env K k a w _ _ h;exact h.elim
 |rangeFunc _ _ _ _ _ _=>intro env K k a w _ _ h;exact h.elim
 |label _=>intro env K k a w _ _ h;exact h.elim
 |goto _=>intro env K k a w _ _ h;exact h.elim
 |refuse _=>intro env K k a w _ _ h;exact h.elim
theorem Ia{env:Env}{a:Act}{Q:Value→World→Prop}{w:World}(hag:Agree env a.tmps):∀(rs:List ResultVar) (vs:List Value),sL P env rs vs Q w→
  ∃us,(rs.mapM (m:=Sem) fun | .tmp t=>pure (a.tmps.getD t undef)| .cell x t=>do loadVar t (←asAddr (a.tmps.getD x undef))).run P w= .ok us w∧Q (B5 (vs++us)) w:=by
 intro rs;induction rs with
 |nil=>intro vs h;exact⟨[],bu,by simpa[sL,ret]using h⟩
 |cons r rs ih=>
  intro vs h;cases r with
  |tmp t=>
   replace h:At Q w (sL P env (.tmp t::rs) vs):=h;unfold sL at h;split at h;·rename_i v hv;obtain⟨us,h1,h2⟩:=ih _ h;refine⟨v::us,?_,by simpa using h2⟩;simp only[List.mapM_cons,hag.bM t v hv,Sem.run_bind,Sem.run_pure,Result.andThen_ok,h1]
   ·exact h.elim
  |cell x t=>
   replace h:At Q w (sL P env (.cell x t::rs) vs):=h;unfold sL at h;split at h
   ·rename_i hfit;split at h
    ·rename_i ad kd hx hkd;obtain⟨v,hv,h⟩:=oG hkd hfit h;obtain⟨us,h1,h2⟩:=ih _ h;refine⟨kd.val v::us,?_,by simpa using h2⟩;have hxa:=hag.bM x _ (by rw[hx];rfl);have had:(asAddr (a.tmps.getD x undef)).run P w= .ok ad w:=by rw[hxa];rfl
     simp only[List.mapM_cons,had,Sem.run_bind,Sem.run_pure,Result.andThen_ok,hv,h1]
    ·exact h.elim
   ·exact h.elim
theorem nf{fn:Func}{env:Env}{a:Act}{Q:Value→World→Prop}{w:World}(hag:Agree env a.tmps)(h:sL P env fn.results.toList [] Q w):
  ∃v,(results fn a.tmps).run P w= .ok v w∧Q v w:=by
 obtain⟨us,h1,h2⟩:=Ia hag _ _ h;refine⟨B5 us,?_,by simpa using h2⟩;unfold results;rw[←Array.toArray_toList (xs:=fn.results),List.mapM_toArray];simp only[Sem.run_bind,Sem.run_map];erw [h1];match us with
 |[]=>rfl
 |[u]=>rfl
 |u::v::us=>simp[B5]
theorem c8{α:Type}{a:α}{l l':List α}:a::l++l'=a::(l++l'):=rfl
theorem c9{α:Type}{l:List α}:[]++l=l:=rfl
abbrev Mi(Q:Value→World→Prop):Ending→World→Prop:=fun e w'=>∃v,e= .returned v∧Q v w'
def az.z:az:=⟨fun _=>[],fun _=>none,fun _=> .quiet⟩
theorem xG(hp:eW P=true)(hm:P.follows .mixedOrders=true)(T:az){f:FuncId}{fn:Func}(hf:P.funcs[f]? =some fn)(hB:(fn.body.map (p7 T)).getD false=true)
  {es:List E1} {args:List Value} (hes:E1.vs es=some args) {Q:Value→World→Prop} {w:World} (h:Jk P T fn es Q w):
  Calls P f args.toArray w fun e w'=>∃v,e= .returned v∧Q v w':=by
 cases hb:fn.body with
 |none=>rw[hb]at hB;simp at hB
 |some c=>
  rw[hb]at hB;unfold Jk at h;rw[hb]at h;let a:Act:={tmps:=args.toArray++Array.replicate (fn.ntmps-args.toArray.size) undef,defers:=[]};have hag:Agree (Kp es fn.ntmps) a.tmps:=by
   refine⟨fun i hi=>?_,fun i v hv=>?_⟩;·have:=Env.Da _ _ _ (by rwa [Kp,Env.F0]at hi);simp[a];omega
   rcases Env.qx es _ 0 i v hv with ⟨j,e,h1,h2,h3⟩|h
   ·obtain⟨u,hu,hue⟩:=zq hes h2;rw[hue]at h3;cases h3;rw[Nat.zero_add]at h1;subst h1;have hi':i<args.length:=by
     rcases Nat.lt_or_ge i args.length with h|h;·exact h
     ·rw[List.getElem?_eq_none h]at hu;cases hu
    simp only[a,Array.getD_eq_getD_getElem?];rw[Array.getElem?_append_left (by simpa using hi')];simp[hu]
   ·rw[Env.DQ]at h;cases h
  have hret:∀env' a' w' k' (h1:Agree env' a'.tmps),mU (writes c) a a'→∀h3:sL P env' fn.results.toList [] Q w',∀(b:Frame) (cs:List Frame),b.kind= .normal→b.fn=f→
    Frame.leaving P {b.at a' k' with mode:= .returning} w' (.returned (Classical.choose (nf (fn:=fn) h1 h3))):=by intro env' a' w' k' h1 h2 h3 b cs hk hbf;refine⟨rfl,h2.2.1,hk,fn,?_,(Classical.choose_spec (nf h1 h3)).1⟩;show P.funcs[b.fn]? =some fn;rw[hbf];exact hf
  have hrun:jW P f Q [.code c] a w:=by
   refine KB hp hm c _ _ [] a w hB hag h ?_ ?_ ?_;·intro env' a' w' h1 h2 h3 hd b cs hk hbf;refine⟨_,w',_,(Classical.choose_spec (nf h1 h3)).2,.one step_end,hbf,hret _ _ _ [] h1 h2 h3 b cs hk hbf⟩
   ·intro id env' a' w' _ _ h3;exact h3.elim
   ·intro env' a' w' k' h1 h2 h3 hd b cs hk hbf;refine⟨_,w',_,(Classical.choose_spec (nf h1 h3)).2,.one step_ret,hbf,hret _ _ _ _ h1 h2 h3 b cs hk hbf⟩
  intro cs;let b:Frame:={(default:Frame)with fn:=f,kind:= .normal};have henter:Frame.enter P f args.toArray .normal=b.at a [.code c]:=by simp[Frame.enter,Frame.at,hf,hb,b,a]
  obtain⟨v,w',fr,h1,h2,h3,h4⟩:=hrun rfl b cs rfl rfl;exact⟨.returned v,w',fr,⟨v,rfl,h1⟩,by rw[henter];exact h2,h3,h4⟩
abbrev i64(n:Int):Value:= .int .i64 n
abbrev kI:LK:= .int .i64
abbrev oA(b:Nat):Option Addr:=some ⟨b,0,none⟩
abbrev pA(b:Nat):Value:= .pointer (some ⟨b,0,none⟩)
theorem oT{p:Prop} [Decidable p] (h:decide p=true):p:=of_decide_eq_true h
theorem oF{p:Prop} [Decidable p] (h:decide p=false):¬p:=of_decide_eq_false h
end
end Go.Gl
