import Derived.Test.YtjginndmmlkjiaaGreatGsSnd6
import Derived.Test.YtjginndmmlkjiaaGreatProg
import Derived.Shelf.SlIterI.Sorted
import Derived.Shelf.SortM.Plain
import Derived.Shelf.SortM.SortNone
set_option linter.unusedSimpArgs false
set_option linter.unusedVariables false
namespace Go.Gl
section
open Go
abbrev HP:=Nat→Option Obj
abbrev aD:=HP→Prop
def emp:aD:=fun h=>∀b,h b=none
def sep(A B:aD):aD:=fun h=>∃h1 h2,(∀b,h1 b=none∨h2 b=none)∧h=(fun b=>(h1 b).or (h2 b))∧A h1∧B h2
def star:List aD→aD
 |[]=>emp|A::L=>sep A (star L)
theorem nP{A B:aD}{h:HP}(H:sep A B h):sep B A h:=by obtain⟨h1,h2,hd,rfl,ha,hb⟩:=H;refine⟨h2,h1,fun b=>(hd b).symm,?_,hb,ha⟩;funext b;rcases hd b with h|h<;>simp[h]
theorem oX{A B C:aD}{h:HP}(H:sep A (sep B C) h):sep (sep A B) C h:=by
 obtain⟨h1,h23,hd,rfl,ha,h2,h3,hd2,rfl,hb,hc⟩:=H;have d12:∀b,h1 b=none∨h2 b=none:=fun b=>by
  rcases hd b with h|h;·exact .inl h
  ·right;cases hh:h2 b<;>simp_all
 have d13:∀b,h1 b=none∨h3 b=none:=fun b=>by
  rcases hd b with h|h;·exact .inl h
  ·right;cases hh:h3 b<;>simp_all
 refine⟨fun b=>(h1 b).or _,h3,fun b=>?_,?_,⟨h1,h2,d12,rfl,ha,hb⟩,hc⟩
 ·rcases d13 b with h|h
  ·rcases hd2 b with h'|h';·left;simp[h,h']
   ·exact .inr h'
  ·exact .inr h
 ·funext b;exact Option.or_assoc.symm
theorem eZ{A A' B B':aD}(ha:∀h,A h→A' h)(hb:∀h,B h→B' h){h:HP}(H:sep A B h):sep A' B' h:=by obtain⟨h1,h2,hd,rfl,h3,h4⟩:=H;exact⟨h1,h2,hd,rfl,ha _ h3,hb _ h4⟩
theorem pQ{A B C:aD}{h:HP}(H:sep (sep A B) C h):sep A (sep B C) h:=
 nP (eZ (fun _=>nP) (fun _ h=>h) (oX (eZ (fun _ h=>h) (fun _=>nP) (nP H))))
theorem GX{A B C:aD}{h:HP}(H:sep A (sep B C) h):sep B (sep A C) h:=
 pQ (eZ (fun _=>nP) (fun _ h=>h) (oX H))
theorem ru{L L':List aD}(p:L.Perm L'):∀{h:HP},star L h→star L' h:=by
 induction p with
 |nil=>exact fun H=>H
 |cons x _ ih=>exact fun H=>eZ (fun _ h=>h) (fun _=>ih) H
 |swap x y l=>exact fun H=>GX H
 |trans _ _ ih1 ih2=>exact fun H=>ih2 (ih1 H)
theorem oh{L L':List aD}{h:HP}(H:star (L++L') h):sep (star L) (star L') h:=by
 induction L generalizing h with
 |nil=>exact⟨fun _=>none,h,fun b=> .inl rfl,bu,fun _=>rfl,H⟩
 |cons A L ih=>exact oX (eZ (fun _ h=>h) (fun _=>ih) H)
theorem iU{L L':List aD}{h:HP}(H:sep (star L) (star L') h):star (L++L') h:=by
 induction L generalizing h with
 |nil=>
  obtain⟨h1,h2,hd,rfl,he,h4⟩:=H;have:(fun b=>(h1 b).or (h2 b))=h2:=by funext b;rw[he b];simp
  rw[this];exact h4
 |cons A L ih=>exact eZ (fun _ h=>h) (fun _=>ih) (pQ H)
structure FR where
 m:Nat→Option Obj
 z:World
instance:CoeFun FR (fun _=>Nat→Option Obj):=⟨FR.m⟩
def Sm(w w':World):Prop:=w'.os=w.os∧w'.tape=w.tape∧w'.output=w.output
theorem Sm.trans{w w' w'':World}(h:Sm w w')(h':Sm w' w''):Sm w w'':=⟨h'.1.trans h.1,h'.2.1.trans h.2.1,h'.2.2.trans h.2.2⟩
structure Mb(ρ:FR)(w:World):Prop where
 mem:∀b o,ρ b=some o→w.heap[b]? =some o
 same:Sm ρ.z w
instance {ρ:FR} {w:World}:CoeFun (Mb ρ w) (fun _=>∀b o,ρ b=some o→w.heap[b]? =some o):=⟨Mb.mem⟩
def Sat(ρ:FR)(L:List aD)(w:World):Prop:=
 (∃h,star L h∧∀b o,h b=some o→w.heap[b]? =some o∧ρ b=none)∧Mb ρ w
theorem Sat.perm{ρ:FR}{L L':List aD}{w:World}(p:L.Perm L')(H:Sat ρ L w):Sat ρ L' w:=by obtain⟨⟨h,h1,h2⟩,h3⟩:=H;exact⟨⟨h,ru p h1,h2⟩,h3⟩
theorem Sat.drop{ρ:FR}{A:aD}{L:List aD}{w:World}(H:Sat ρ (A::L) w):Sat ρ L w:=by
 obtain⟨⟨h,⟨h1,h2,hd,rfl,ha,hl⟩,hw⟩,h3⟩:=H;refine⟨⟨h2,hl,fun b o hb=>hw b o ?_⟩,h3⟩;rcases hd b with h|h;·simp[h,hb]
 ·rw[h]at hb;cases hb
theorem Sat.tS{ρ:FR}{L L':List aD}{w:World}(H:Sat ρ (L++L') w):Sat ρ L' w:=by
 induction L with
 |nil=>exact H
 |cons A L ih=>exact ih H.drop
theorem Sat.imp{ρ:FR}{A A':aD}{L:List aD}{w:World}(h:∀h,A h→A' h)(H:Sat ρ (A::L) w):Sat ρ (A'::L) w:=by obtain⟨⟨h,h1,h2⟩,h3⟩:=H;exact⟨⟨h,eZ ‹_› (fun _ h=>h) h1,h2⟩,h3⟩
theorem Sat.uT{ρ:FR}{M L:List aD}{w:World}(H:Sat ρ (star M::L) w):Sat ρ (M++L) w:=by obtain⟨⟨h,h1,h2⟩,h3⟩:=H;exact⟨⟨h,iU h1,h2⟩,h3⟩
theorem Sat.Bx{ρ:FR}{M L:List aD}{w:World}(H:Sat ρ (M++L) w):Sat ρ (star M::L) w:=by obtain⟨⟨h,h1,h2⟩,h3⟩:=H;exact⟨⟨h,oh h1,h2⟩,h3⟩
theorem Sat.drawn{ρ:FR}{L:List aD}{w:World}{n:Nat}(H:Sat ρ L w):Sat ρ L {w with drawn:=n}:=⟨H.1,⟨H.2.mem,H.2.same⟩⟩
theorem Sat.heap{ρ:FR}{L:List aD}{w w':World}(h:w'.heap=w.heap)(hs:Sm w w')(H:Sat ρ L w):Sat ρ L w':=by obtain⟨⟨h0,hl,hh⟩,h3⟩:=H;exact⟨⟨h0,hl,fun b o hb=>by rw[h];exact hh b o hb⟩,⟨fun b o hb=>by rw[h];exact h3.mem b o hb,h3.same.trans hs⟩⟩
def pt(b:Nat)(o:Obj):aD:=fun h=>h=fun c=>if c=b then some o else none
def au(b:Nat)(cs:List Value):aD:=fun h=>∃t,pt b (.cells cs.toArray t (0,0)) h
def mp(b:Nat)(es:Array MapEntry)(clock:Nat):aD:=pt b (.map es clock)
theorem Sat.pt{ρ:FR}{b:Nat}{o:Obj}{L:List aD}{w:World}(H:Sat ρ (pt b o::L) w):w.heap[b]? =some o:=by
 obtain⟨⟨h,⟨h1,h2,hd,rfl,ha,hl⟩,hw⟩,h3⟩:=H;have:h1 b=some o:=by rw[ha];simp
 exact(hw b o (by simp[this])).1
theorem Sat.cl{ρ:FR}{b:Nat}{cs:List Value}{L:List aD}{w:World}(H:Sat ρ (au b cs::L) w):∃t,w.heap[b]? =some (.cells cs.toArray t (0,0)):=by
 obtain⟨⟨h,⟨h1,h2,hd,rfl,⟨t,ha⟩,hl⟩,hw⟩,h3⟩:=H;have:h1 b=some (.cells cs.toArray t (0,0)):=by rw[ha];simp
 exact⟨t,(hw b _ (by simp[this])).1⟩
theorem Sat.set{ρ:FR}{b:Nat}{o o':Obj}{L:List aD}{w w':World}(H:Sat ρ (Gl.pt b o::L) w)(hw:∀c,w'.heap[c]? =if c=b then some o' else w.heap[c]?)(hs:Sm w w':=by exact⟨rfl,rfl,rfl⟩):Sat ρ (Gl.pt b o'::L) w':=by
 obtain⟨⟨h,⟨h1,h2,hd,rfl,ha,hl⟩,hh⟩,h3⟩:=H;have hb1:h1 b=some o:=by rw[ha];simp
 have hr:=(hh b o (by simp[hb1])).2;refine⟨⟨fun c=>((fun c=>if c=b then some o' else none) c).or _,⟨_,h2,fun c=>?_,rfl,rfl,hl⟩,fun c u hu=>?_⟩,⟨fun c u hu=>?_,h3.same.trans hs⟩⟩
 ·by_cases hc:c=b
  ·subst hc;right;rcases hd c with h|h;·rw[hb1]at h;cases h
   ·exact h
  ·left;simp[hc]
 ·by_cases hc:c=b;·subst hc;simp at hu;subst hu;exact⟨by simp[hw],hr⟩
  ·simp[hc]at hu;have h1c:h1 c=none:=by rw[ha];simp[hc]
   have:=hh c u (by simp[h1c,hu]);exact⟨by simp[hw,hc,this.1],this.2⟩
 ·have:c≠b:=by rintro rfl;rw[hr]at hu;cases hu
  simp[hw,this,h3 c u hu]
theorem Sat.new{ρ:FR}{o:Obj}{L:List aD}{w:World}(H:Sat ρ L w):Sat ρ (Gl.pt w.heap.size o::L) (w.alloc o):=by
 obtain⟨⟨h,hl,hh⟩,h3⟩:=H;have lt:∀b u,w.heap[b]? =some u→b<w.heap.size:=fun b u hb=>by
  rcases Nat.lt_or_ge b w.heap.size with h|h;·exact h
  ·simp[Array.getElem?_eq_none h]at hb
 have rj:∀b u,w.heap[b]? =some u→(w.alloc o).heap[b]? =some u:=fun b u hb=>by have:=lt b u hb;show(w.heap.push o)[b]? =some u;rw[Array.getElem?_push,if_neg ae];exact hb
 have hr:ρ w.heap.size=none:=by
  cases hρ:ρ w.heap.size with
  |none=>rfl
  |some u=>have:=lt _ _ (h3 _ _ hρ);omega
 refine⟨⟨fun c=>((fun c=>if c=w.heap.size then some o else none) c).or _,⟨_,h,fun c=>?_,rfl,rfl,hl⟩,fun c u hu=>?_⟩,⟨fun c u hu=>rj c u (h3 c u hu),h3.same⟩⟩
 ·by_cases hc:c=w.heap.size
  ·subst hc;right;cases hx:h w.heap.size with
   |none=>rfl
   |some u=>have:=lt _ _ (hh _ _ hx).1;omega
  ·left;simp[hc]
 ·by_cases hc:c=w.heap.size;·subst hc;simp at hu;subst hu;exact⟨show(w.heap.push o)[w.heap.size]? =some o by simp,hr⟩
  ·simp[hc]at hu;exact⟨rj c u (hh c u hu).1,(hh c u hu).2⟩
theorem Sat.zZ{ρ:FR}{t:TypeId}{cs:List Value}{L:List aD}{w:World}(H:Sat ρ L w):Sat ρ (au w.heap.size cs::L) (w.alloc (.cells cs.toArray t)):=
 Sat.imp (fun _ h=>⟨t,h⟩) (Sat.new H)
def Qp(ρ:FR)(Post:Value→List aD→Prop):Value→World→Prop:=fun v w=>∃L,Post v L∧Sat ρ L w
structure Le(ρ ρ':FR):Prop where
 m:∀b o,ρ b=some o→ρ' b=some o
 z:ρ'.z=ρ.z
instance {ρ ρ':FR}:CoeFun (Le ρ ρ') (fun _=>∀b o,ρ b=some o→ρ' b=some o):=⟨Le.m⟩
theorem Le.refl(ρ:FR):Le ρ ρ:=⟨fun _ _ h=>h,rfl⟩
theorem Le.trans{ρ ρ' ρ'':FR}(h:Le ρ ρ')(h':Le ρ' ρ''):Le ρ ρ'':=⟨fun b o hb=>h' b o (h b o hb),h'.z.trans h.z⟩
def Tr(ρ0 ρ:FR)(L:List aD)(T:Tree)(Post:Value→List aD→Prop):Prop:=Le ρ0 ρ→∀w,Sat ρ L w→T (Qp ρ0 Post) w
def Spec(ρ:FR)(P:Program)(f:FuncId)(args:List Value)(A:List aD)(r:RK)(B:RT r→List aD→Prop):Prop:=
 ∀R w,Sat ρ (A++R) w→Calls P f args.toArray w fun e w'=>∃x L,e= .returned (r.val x)∧B x L∧Sat ρ (L++R) w'
inductive Take:List aD→aD→List aD→Prop
 |here {A:aD} {L:List aD}:Take (A::L) A L
 |skip {A B:aD} {L L':List aD} (h:Take L A L'):Take (B::L) A (B::L')
theorem Take.perm{L L':List aD}{A:aD}(h:Take L A L'):L.Perm (A::L'):=by
 induction h with
 |here=>exact .refl _
 |skip _ ih=>exact(List.Perm.cons _ ih).trans (List.Perm.swap _ _ _)
inductive aI:List aD→List aD→List aD→Prop
 |nil {L:List aD}:aI L [] L
 |cons {L L' R:List aD} {A:aD} {M:List aD} (h:Take L A L') (hs:aI L' M R):aI L (A::M) R
theorem aI.perm{L M R:List aD}(h:aI L M R):L.Perm (M++R):=by
 induction h with
 |nil=>exact .refl _
 |cons h _ ih=>exact h.perm.trans (.cons _ ih)
theorem aI.app:∀(A R:List aD),aI (A++R) A R
 |[],_=> .nil
 |_::A,R=> .cons .here (aI.app A R)
variable{ρ0 ρ:FR}{L L':List aD}{Post:Value→List aD→Prop}
theorem Tr.perm{T:Tree}(p:L.Perm L')(h:Tr ρ0 ρ L' T Post):Tr ρ0 ρ L T Post:=fun hle w hw=>h hle w (hw.perm p)
theorem Tr.take{T:Tree}{A:aD}(t:Take L A L')(h:Tr ρ0 ρ (A::L') T Post):Tr ρ0 ρ L T Post:=Tr.perm t.perm h
theorem Tr.drop{T:Tree}{A:aD}(t:Take L A L')(h:Tr ρ0 ρ L' T Post):Tr ρ0 ρ L T Post:=Tr.perm t.perm fun hle w hw=>h hle w hw.drop
theorem Tr.imp{T:Tree}{A A':aD}(t:Take L A L')(hA:∀h,A h→A' h)(h:Tr ρ0 ρ (A'::L') T Post):Tr ρ0 ρ L T Post:=
 Tr.take t fun hle w hw=>h hle w (hw.imp hA)
theorem Tr.iW{T:Tree}{A:aD}{ι:Type}{M:ι→List aD}{c:ι→Prop}(t:Take L A L')(hA:∀h,A h→∃i,c i∧star (M i) h)(h:∀i,c i→Tr ρ0 ρ (M i++L') T Post):Tr ρ0 ρ L T Post:=by refine Tr.take t fun hle w hw=>?_;obtain⟨⟨h0,⟨h1,h2,hd,rfl,ha,hl⟩,hh⟩,h3⟩:=hw;obtain⟨i,hc,hM⟩:=hA _ ha;exact h i hc hle w ⟨⟨_,iU ⟨h1,h2,hd,rfl,hM,hl⟩,hh⟩,h3⟩
theorem Tr.close{T:Tree}{A:aD}{M R:List aD}(t:aI L M R)(hA:∀h,star M h→A h)(h:Tr ρ0 ρ (A::R) T Post):Tr ρ0 ρ L T Post:=
 Tr.perm t.perm fun hle w hw=>h hle w (hw.Bx.imp hA)
theorem Sat.HC{ρ ρ':FR}(h:Le ρ ρ'){L:List aD}{w:World}(H:Sat ρ' L w):Sat ρ L w:=by
 obtain⟨⟨h0,hl,hh⟩,h3⟩:=H;refine⟨⟨h0,hl,fun b o hb=>⟨(hh b o hb).1,?_⟩⟩,⟨fun b o hb=>h3 b o (h b o hb),by have:=h3.same;rw[h.z]at this;exact this⟩⟩;cases hr:ρ b with
 |none=>rfl
 |some u=>have:=(hh b o hb).2;rw[h b u hr]at this;cases this
theorem ag{b:Bool}{x y:Tree}(hx:b=true→Tr ρ0 ρ L x Post)(hy:b=false→Tr ρ0 ρ L y Post):Tr ρ0 ρ L (br b x y) Post:=fun hle w hw=>⟨fun h=>hx h hle w hw,fun h=>hy h hle w hw⟩
theorem bg{b:Bool}{x y:Tree}(hb:b=true)(hx:Tr ρ0 ρ L x Post):Tr ρ0 ρ L (br b x y) Post:=by subst hb;exact fun hle w hw=>⟨fun _=>hx hle w hw,nofun⟩
theorem ak{b:Bool}{x y:Tree}(hb:b=false)(hy:Tr ρ0 ρ L y Post):Tr ρ0 ρ L (br b x y) Post:=by subst hb;exact fun hle w hw=>⟨nofun,fun _=>hy hle w hw⟩
theorem af{a:Addr}{k:Addr→Tree}(h:Tr ρ0 ρ L (k a) Post):Tr ρ0 ρ L (nn (some a) k) Post:=fun hle w hw=>⟨a,rfl,h hle w hw⟩
theorem bm{c:Prop}{k:Tree}(hc:c)(h:Tr ρ0 ρ L k Post):Tr ρ0 ρ L (dE c k) Post:=fun hle w hw=>⟨hc,h hle w hw⟩
theorem l9{b:Addr}{n:Nat}{i:Int}{size:Nat}{k:Addr→Tree}(h0:0≤i)(h1:i<n)(h:Tr ρ0 ρ L (k (fa b (i.toNat*size))) Post):Tr ρ0 ρ L (ix (some b) n i size k) Post:=
 fun hle w hw=>⟨b,rfl,h0,h1,h hle w hw⟩
theorem aA{T:Tree}(h:Tr ρ0 ρ L T Post):Tr ρ0 ρ L (cD T) Post:=fun hle w hw=>h hle _ hw.drawn
theorem cr{x y:Tree}(hx:Tr ρ0 ρ L x Post)(hy:Tr ρ0 ρ L y Post):Tr ρ0 ρ L (both x y) Post:=fun hle w hw=>⟨hx hle w hw,hy hle w hw⟩
theorem ei{a:Option Addr}{c:Nat}{l h:Int}{size:Nat}{k:av→Tree}(h0:0≤l)(h1:l≤h)(h2:h≤c)
  (hk:Tr ρ0 ρ L (k ⟨if c=l.toNat then a else a.map fun b=>fa b (l.toNat*size),h.toNat-l.toNat,c-l.toNat⟩) Post):Tr ρ0 ρ L (sG a c l h size k) Post:=fun hle w hw=>⟨h0,h1,h2,hk hle w hw⟩
theorem aK{k:(World→Prop)→Tree}(M:List aD){R:List aD}(t:aI L M R)(h:Tr ρ0 ρ L (k (Sat ρ M)) Post):Tr ρ0 ρ L (held k) Post:=fun hle w hw=>
 ⟨Sat ρ M,((hw.perm t.perm).perm List.perm_append_comm).tS,h hle w hw⟩
theorem aS{M R:List aD}{T:Tree}(t:aI L M R)(h:Tr ρ0 ρ L T Post):Tr ρ0 ρ L (aZ (Sat ρ M) T) Post:=fun hle w hw=>
 ⟨((hw.perm t.perm).perm List.perm_append_comm).tS,h hle w hw⟩
theorem kK{S:World→Prop}{k:(World→Prop)→Tree}(M:List aD){R:List aD}(t:aI L M R)(hs:∀w,Sat ρ M w→S w)(h:Tr ρ0 ρ L (k (Sat ρ M)) Post):Tr ρ0 ρ L (narrow S k) Post:=fun hle w hw=>
 ⟨Sat ρ M,hs,((hw.perm t.perm).perm List.perm_append_comm).tS,h hle w hw⟩
theorem aO(b o n:Nat):fa ⟨b,o,none⟩ n=⟨b,o+n,none⟩:=by
 unfold fa;split;·rename_i h;subst h;rfl
 ·rfl
theorem cell_of{w:World}{b off:Nat}{cs:Array Value}{t:TypeId}{fr:Nat×Nat}{v:Value}(h:w.heap[b]? =some (.cells cs t fr))(hv:cs[off]? =some v):w.cell? ⟨b,off,none⟩=some v:=by simp[World.cell?,h,hv]
theorem aT{k:LK}{a:Addr}{f:LT k→Tree}{b off:Nat}{cs:List Value}{x:LT k}(ha:a=⟨b,off,none⟩)(t:Take L (au b cs) L')(hv:cs[off]? =some (k.val x))(h:Tr ρ0 ρ L (f x) Post):
  Tr ρ0 ρ L (Hk k a f) Post:=fun hle w hw=>by obtain⟨ty,hb⟩:=(hw.perm t.perm).cl;exact⟨x,by rw[ha];exact cell_of hb (by simpa using hv),h hle w hw⟩
theorem K4{k:LK}{a:Addr}{f:LT k→Tree}{b off:Nat}{cs:Array Value}{ty:TypeId}{fr:Nat×Nat}{x:LT k}(ha:a=⟨b,off,none⟩)(hr:ρ b=some (.cells cs ty fr))(hv:cs[off]? =some (k.val x))(h:Tr ρ0 ρ L (f x) Post):
  Tr ρ0 ρ L (Hk k a f) Post:=fun hle w hw=>⟨x,by rw[ha];exact cell_of (hw.2 _ _ hr) hv,h hle w hw⟩
theorem bo{M:List aD}{k:LK}{a:Addr}{f:LT k→Tree}{b off:Nat}{cs:List Value}{x:LT k}(ha:a=⟨b,off,none⟩)(t:Take M (au b cs) L')(hv:cs[off]? =some (k.val x))(h:Tr ρ0 ρ L (f x) Post):
  Tr ρ0 ρ L (xY (Sat ρ M) k a f) Post:=fun hle w hw=>by refine⟨x,fun w' hw'=>?_,h hle w hw⟩;obtain⟨ty,hb⟩:=(hw'.perm t.perm).cl;rw[ha];exact cell_of hb (by simpa using hv)
theorem xZ{M:List aD}{k:LK}{a:Addr}{f:LT k→Tree}{b off:Nat}{cs:Array Value}{ty:TypeId}{fr:Nat×Nat}{x:LT k}(ha:a=⟨b,off,none⟩)(hr:ρ b=some (.cells cs ty fr))(hv:cs[off]? =some (k.val x))(h:Tr ρ0 ρ L (f x) Post):
  Tr ρ0 ρ L (xY (Sat ρ M) k a f) Post:=fun hle w hw=>⟨x,fun w' hw'=>by rw[ha];exact cell_of (hw'.2 _ _ hr) hv,h hle w hw⟩
theorem yb{w:World}{b off:Nat}{cs:Array Value}{t:TypeId}{fr:Nat×Nat}{v:Value}(h:w.heap[b]? =some (.cells cs t fr))(c:Nat):
  (w.setCell ⟨b,off,none⟩ v).heap[c]? =if c=b then some (.cells (cs.setIfInBounds off v) t fr)else w.heap[c]? :=by
 simp only[World.setCell,Array.getElem?_modify];by_cases hc:c=b;·subst hc;simp[h]
 ·simp[hc,Ne.symm hc]
def cH(cs:List Value)(off:Nat):List Value→List Value
 |[]=>cs|v::vs=>cH (cs.set off v) (off+1) vs
theorem tb{b:Nat}{R:List aD}:∀(vs:List Value) (off i:Nat) (cs:List Value) (w:World),Sat ρ (au b cs::R) w→Sat ρ (au b (cH cs (off+i) vs)::R) (D9 ⟨b,off,none⟩ i vs w):=by
 intro vs;induction vs with
 |nil=>intro off i cs w H;exact H
 |cons v vs ih=>
  intro off i cs w H;simp only[D9,cH,aO];have:=ih off (i+1) (cs.set (off+i) v) (w.setCell ⟨b,off+i,none⟩ v) ?_;·simpa[Nat.add_assoc]using this
  ·obtain⟨t,hb⟩:=H.cl;obtain⟨⟨h,⟨h1,h2,hd,rfl,⟨t',ha⟩,hl⟩,hh⟩,h3⟩:=H;have ht:t'=t:=by have:=(hh b _ (by rw[ha];simp;rfl)).1;rw[hb]at this;injection this with h;injection h with _ h;exact h.symm
   subst ht;refine Sat.imp (fun _ h=>⟨t',h⟩) (Sat.set ⟨⟨_,⟨h1,h2,hd,rfl,ha,hl⟩,hh⟩,h3⟩ fun c=>?_);rw[yb hb];simp
theorem cz{a:Addr}{vs:List Value}{k:Tree}{b off:Nat}{cs:List Value}(ha:a=⟨b,off,none⟩)(t:Take L (au b cs) L')(hl:off+vs.length≤cs.length)(h1:vs.all nA=true)
  (h:Tr ρ0 ρ (au b (cH cs off vs)::L') k Post):Tr ρ0 ρ L (st a vs k) Post:=fun hle w hw=>by
 subst ha;have hw':=hw.perm t.perm;obtain⟨ty,hb⟩:=hw'.cl;refine⟨fun i hi=>?_,h1,h hle _ (by simpa using tb vs off 0 cs w hw')⟩;rw[aO];have:off+i<cs.length:=by omega
 refine⟨?_,by simp[World.frozen?,hb]⟩;rw[cell_of hb (v:=cs[off+i]) (by simp[this])];rfl
theorem aq{t:TypeId}{vs:List Value}{k:Nat→Tree}(h:∀b,Tr ρ0 ρ (au b vs::L) (k b) Post):Tr ρ0 ρ L (nw t vs k) Post:=fun hle w hw=>h _ hle _ hw.zZ
theorem Ku{k:Nat→Tree}(h:∀b,Tr ρ0 ρ (mp b #[] 0::L) (k b) Post):Tr ρ0 ρ L (KH k) Post:=fun hle w hw=>h _ hle _ hw.new
theorem ai{P:Program}{f:FuncId}{args:List Value}{r:RK}{k:RT r→Tree}{A R:List aD}{B:RT r→List aD→Prop}(hs:Gl.Spec ρ P f args A r B)(t:aI L A R)
  (h:∀x L',B x L'→Tr ρ0 ρ (L'++R) (k x) Post):Tr ρ0 ρ L (call P f args r k) Post:=fun hle w hw=>by apply (hs R w (hw.perm t.perm)).mono;rintro e w' ⟨x,L',rfl,hB,hsat⟩;exact⟨x,rfl,h x _ hB hle _ hsat⟩
theorem qA{P:Program}{f:FuncId}{fn:Func}{c i:Array Value}{args:List Value}{r:RK}{k:RT r→Tree}{A R:List aD}{B:RT r→List aD→Prop}(hf:P.funcs[f]? =some fn)(hb:fn.body.isSome=true)
  (hs:Gl.Spec ρ P f (i.toList++args++c.toList) A r B) (t:aI L A R)
  (h:∀x L',B x L'→Tr ρ0 ρ (L'++R) (k x) Post):Tr ρ0 ρ L (lu P (.func (.func f) i c) args r k) Post:=fun hle w hw=>by refine⟨f,i,c,fn,rfl,hf,hb,?_⟩;have:=hs R w (hw.perm t.perm);rw[show(i.toList++args++c.toList).toArray=i++args.toArray++c by apply Array.ext';simp]at this;apply this.mono;rintro e w' ⟨x,L',rfl,hB,hsat⟩;exact⟨x,rfl,h x _ hB hle _ hsat⟩
theorem mK{P:Program}{f:FuncId}{fn:Func}{c:Array Value}{args:List Value}{r:RK}{k:RT r→Tree}{A R:List aD}{B:RT r→List aD→Prop}(hf:P.funcs[f]? =some fn)(hb:fn.body.isSome=true)
  (hs:Gl.Spec ρ P f (args++c.toList) A r B) (t:aI L A R)
  (h:∀x L',B x L'→Tr ρ0 ρ (L'++R) (k x) Post):Tr ρ0 ρ L (lu P (.func (.func f) #[] c) args r k) Post:=
 qA hf hb (by simpa using hs) t h
theorem iV{α:Type}{k:α→Tree}{f:(α→Tree)→Tree}(I:α→List aD→Prop)(hk:∀s M,I s M→Tr ρ0 ρ M (k s) Post)(h:∀X:α→Tree,(∀s M,I s M→Tr ρ0 ρ M (X s) Post)→Tr ρ0 ρ L (f X) Post):Tr ρ0 ρ L (jn k f) Post:=
 h k hk
theorem aM{ks:List LK}{body:(LTs ks→Tree)→LTs ks→Tree}{s0:LTs ks}(I:Nat→LTs ks→List aD→Prop)(n0:Nat)(h0:I n0 s0 L)
  (h:∀n s M,I n s M→∀X:LTs ks→Tree,(∀m s' M',m<n→I m s' M'→Tr ρ0 ρ M' (X s') Post)→Tr ρ0 ρ M (body X s) Post):Tr ρ0 ρ L (lp ks body s0) Post:=fun hle w hw X hX=>by
 have key:∀n s M w,I n s M→Sat ρ M w→X s w:=by
  intro n;induction n using Nat.strongRecOn with
  |_ n ih=>intro s M w hI hM;refine hX s w (h n s M hI (fun s' _ w'=>X s' w') (fun m s' M' hm hI' _ w' hw'=>ih m hm s' M' w' hI' hw') hle w hM)
 exact key _ _ L w h0 hw
theorem lF{P:Program}{s:Sem Value}{r:RK}{k:RT r→Tree}(C:RT r→List aD→Prop)(hr:∀w,Sat ρ L w→∃x w' M,s.run P w= .ok (r.val x) w'∧C x M∧Sat ρ M w')
  (h:∀x M,C x M→Tr ρ0 ρ M (k x) Post):Tr ρ0 ρ L (cM P s r k) Post:=fun hle w hw=>by obtain⟨x,w',M,h1,h2,h3⟩:=hr w hw;exact⟨x,w',h1,h x M h2 hle _ h3⟩
theorem Tr.kT{T:Tree}{b:Nat}{cs:List Value}(t:Take L (au b cs) L')(h:∀ρ':FR,(∃ty,ρ' b=some (.cells cs.toArray ty (0,0)))→Le ρ ρ'→Tr ρ0 ρ' L' T Post):Tr ρ0 ρ L T Post:=fun hle w hw=>by
 have hw':=hw.perm t.perm;obtain⟨⟨h0,⟨h1,h2,hd,rfl,⟨ty,ha⟩,hl⟩,hh⟩,h3⟩:=hw';have hb1:h1 b=some (.cells cs.toArray ty (0,0)):=by rw[ha];simp
 have hr:=(hh b (.cells cs.toArray ty (0,0)) (by simp[hb1])).2;have hb2:h2 b=none:=by
  rcases hd b with h|h;·rw[hb1]at h;cases h
  ·exact h
 have hle':Le ρ ⟨fun c=>if c=b then some (.cells cs.toArray ty (0,0))else ρ c,ρ.z⟩:=by
  refine⟨fun c o hc=>?_,rfl⟩;have:c≠b:=by rintro rfl;rw[hr]at hc;cases hc
  simp[this,hc]
 refine h ⟨fun c=>if c=b then some _ else ρ c,ρ.z⟩ ⟨ty,bu⟩ hle' (hle.trans hle') w ⟨⟨h2,hl,fun c o hc=>?_⟩,⟨fun c o hc=>?_,h3.same⟩⟩
 ·have hcb:c≠b:=by rintro rfl;rw[hb2]at hc;cases hc
  have h1c:h1 c=none:=by rw[ha];simp[hcb]
  have:=hh c o (by simp[h1c,hc]);exact⟨this.1,by simp[hcb,this.2]⟩
 ·by_cases hcb:c=b;·subst hcb;simp at hc;subst hc;exact(hh c _ (by simp[hb1])).1
  ·simp[hcb]at hc;exact h3 c o hc
inductive Ends:List aD→List aD→Prop
 |refl {L:List aD}:Ends L L
 |skip {A:aD} {L R:List aD} (h:Ends L R):Ends (A::L) R
theorem Ends.app{L R:List aD}(e:Ends L R)(M:List aD){ρ:FR}{w:World}(H:Sat ρ (M++L) w):Sat ρ (M++R) w:=by
 induction e with
 |refl=>exact H
 |skip _ ih=>exact ih (H.perm (List.perm_middle)).drop
def SP(r:RK)(B:RT r→List aD→Prop)(R:List aD):Value→List aD→Prop:=fun v L=>∃x M,v=r.val x∧B x M∧L=M++R
theorem ax{r:RK}{B:RT r→List aD→Prop}{R L2 M:List aD}{v:Value}{x:RT r}(hv:v=r.val x)(hB:B x M)(t:aI L M L2)(e:Ends L2 R):Tr ρ0 ρ L (ret v) (SP r B R):=fun hle w hw=>
 ⟨M++R,⟨x,M,hv,hB,rfl⟩,(e.app M (hw.perm t.perm)).HC hle⟩
theorem tk{L L':List aD}{A:aD}(h:Take L A L':=by repeat(first |apply Take.here|apply Take.skip)):Take L A L':=h
theorem ar{L M R:List aD}(h:aI L M R:=by repeat(first |apply aI.nil|(apply aI.cons;focus (repeat(first |apply Take.here|apply Take.skip))))):aI L M R:=h
theorem bE{L R:List aD}(h:Ends L R:=by repeat(first |apply Ends.refl|apply Ends.skip)):Ends L R:=h
theorem lI(b off:Nat)(x:Int){a:Addr}{f:Int→Tree}{cs:List Value}(h:Tr ρ0 ρ L (f x) Post)(ha:a=⟨b,off,none⟩:=by first |rfl|rw[aO])(t:Take L (au b cs) L':=by exact tk)(hv:cs[off]? =some (.int .i64 x):=by rfl):Tr ρ0 ρ L (ld (.l kI) a f) Post:=aT (k:=kI) ha t hv h
theorem lS(b off:Nat)(x:av){a:Addr}{f:av→Tree}{cs:List Value}(h:Tr ρ0 ρ L (f x) Post)(ha:a=⟨b,off,none⟩:=by first |rfl|rw[aO])(t:Take L (au b cs) L':=by exact tk)(hv:cs[off]? =some (.slice x.a x.n x.c):=by rfl):Tr ρ0 ρ L (ld (.l .slice) a f) Post:=aT (k:= .slice) ha t hv h
theorem lP(b off p:Nat){a:Addr}{f:Option Addr→Tree}{cs:List Value}(h:Tr ρ0 ρ L (f (oA p)) Post)(ha:a=⟨b,off,none⟩:=by first |rfl|rw[aO])(t:Take L (au b cs) L':=by exact tk)(hv:cs[off]? =some (pA p):=by rfl):Tr ρ0 ρ L (ld (.l .ptr) a f) Post:=aT (k:= .ptr) (x:=oA p) ha t hv h
theorem hI(b off:Nat)(x:Int){M:List aD}{a:Addr}{f:Int→Tree}{cs:List Value}(h:Tr ρ0 ρ L (f x) Post)(ha:a=⟨b,off,none⟩:=by first |rfl|rw[aO])(t:Take M (au b cs) L':=by exact tk)(hv:cs[off]? =some (.int .i64 x):=by rfl):Tr ρ0 ρ L (rb (Sat ρ M) (.l kI) a f) Post:=bo (k:=kI) ha t hv h
theorem hS(b off:Nat)(x:av){M:List aD}{a:Addr}{f:av→Tree}{cs:List Value}(h:Tr ρ0 ρ L (f x) Post)(ha:a=⟨b,off,none⟩:=by first |rfl|rw[aO])(t:Take M (au b cs) L':=by exact tk)(hv:cs[off]? =some (.slice x.a x.n x.c):=by rfl):Tr ρ0 ρ L (rb (Sat ρ M) (.l .slice) a f) Post:=bo (k:= .slice) ha t hv h
theorem hP(b off p:Nat){M:List aD}{a:Addr}{f:Option Addr→Tree}{cs:List Value}(h:Tr ρ0 ρ L (f (oA p)) Post)(ha:a=⟨b,off,none⟩:=by first |rfl|rw[aO])(t:Take M (au b cs) L':=by exact tk)(hv:cs[off]? =some (pA p):=by rfl):Tr ρ0 ρ L (rb (Sat ρ M) (.l .ptr) a f) Post:=bo (k:= .ptr) (x:=oA p) ha t hv h
theorem sT(b off:Nat){a:Addr}{vs:List Value}{k:Tree}{cs:List Value}(h:Tr ρ0 ρ (au b (cH cs off vs)::L') k Post)(ha:a=⟨b,off,none⟩:=by first |rfl|rw[aO])(t:Take L (au b cs) L':=by exact tk)(hl:off+vs.length≤cs.length:=by simp)(h1:vs.all nA=true:=by rfl):Tr ρ0 ρ L (st a vs k) Post:=cz ha t hl h1 h
theorem cE{P:Program}{f:FuncId}{args:List Value}{r:RK}{k:RT r→Tree}{A B R:List aD}{x:RT r}(hs:Gl.Spec ρ P f args A r fun y M=>y=x∧M=B)(h:Tr ρ0 ρ (B++R) (k x) Post)(t:aI L A R:=by exact ar):Tr ρ0 ρ L (call P f args r k) Post:=ai hs t (by rintro _ _ ⟨rfl,rfl⟩;exact h)
theorem rE{r:RK}{B:RT r→List aD→Prop}{R L2 M:List aD}{v:Value}(x:RT r)(hB:B x M:=by exact⟨rfl,rfl⟩)(hv:v=r.val x:=by rfl)(t:aI L M L2:=by exact ar)(e:Ends L2 R:=by exact bE):Tr ρ0 ρ L (ret v) (SP r B R):=ax hv hB t e
theorem tC{T:Tree}{A:aD}{M R:List aD}(hA:∀h,star M h→A h)(h:Tr ρ0 ρ (A::R) T Post)(t:aI L M R:=by exact ar):Tr ρ0 ρ L T Post:=Tr.close t hA h
theorem tD{T:Tree}(A:aD)(h:Tr ρ0 ρ L' T Post)(t:Take L A L':=by exact tk):Tr ρ0 ρ L T Post:=Tr.drop t h
theorem tP{T:Tree}(M:List aD){R:List aD}(h:Tr ρ0 ρ (M++R) T Post)(t:aI L M R:=by exact ar):Tr ρ0 ρ L T Post:=Tr.perm t.perm h
theorem cK{M R:List aD}{T:Tree}(h:Tr ρ0 ρ L T Post)(t:aI L M R:=by exact ar):Tr ρ0 ρ L (aZ (Sat ρ M) T) Post:=aS t h
class UnL (k:LK) (v:Value) (x:outParam (LT k)):Prop where
 e:v=k.val x
instance {k:IntKind} {n:Int}:UnL (.int k) (.int k n) n:=⟨rfl⟩
instance {b:Bool}:UnL .bool (.bool b) b:=⟨rfl⟩
instance {s:ByteArray}:UnL .str (.string s) s:=⟨rfl⟩
instance {p:Option Addr}:UnL .ptr (.pointer p) p:=⟨rfl⟩
instance {s:av}:UnL .slice (.slice s.a s.n s.c) s:=⟨rfl⟩
instance (priority:=low) {a:Option Addr} {n c:Nat}:UnL .slice (.slice a n c) ⟨a,n,c⟩:=⟨rfl⟩
instance {r:Option Nat}:UnL .map (.map r) r:=⟨rfl⟩
class UnG (ks:List LK) (vs:List Value) (x:outParam (LTs ks)):Prop where
 e:vs=fq ks x
instance:UnG [] [] ():=⟨rfl⟩
instance {k:LK} {ks:List LK} {v:Value} {vs:List Value} {x:LT k} {xs:LTs ks} [h:UnL k v x] [g:UnG ks vs xs]:UnG (k::ks) (v::vs) (x,xs):=⟨by rw[h.e,g.e];rfl⟩
class UnD (k:KD) (v:Value) (x:outParam (KT k)):Prop where
 e:v=k.val x
instance {k:LK} {v:Value} {x:LT k} [h:UnL k v x]:UnD (.l k) v x:=⟨h.e⟩
instance {ks:List LK} {vs:List Value} {x:LTs ks} [h:UnG ks vs x]:UnD (.g ks) (.agg vs.toArray) x:=⟨by rw[h.e];rfl⟩
class UnT (ks:List KD) (vs:List Value) (x:outParam (KTs ks)):Prop where
 e:vs=p5 ks x
instance:UnT [] [] ():=⟨rfl⟩
instance {k:KD} {ks:List KD} {v:Value} {vs:List Value} {x:KT k} {xs:KTs ks} [h:UnD k v x] [g:UnT ks vs xs]:UnT (k::ks) (v::vs) (x,xs):=⟨by rw[h.e,g.e];rfl⟩
class UnR (r:RK) (v:Value) (x:outParam (RT r)):Prop where
 e:v=r.val x
instance {k:KD} {v:Value} {x:KT k} [h:UnD k v x]:UnR (.one k) v x:=⟨h.e⟩
instance {ks:List KD} {vs:List Value} {x:KTs ks} [h:UnT ks vs x]:UnR (.many ks) (.tuple vs.toArray) x:=⟨by rw[h.e];rfl⟩
theorem rT{r:RK}{B:RT r→List aD→Prop}{R L2 M:List aD}{v:Value}{x:RT r} [hv:UnR r v x] (hB:B x M:=by exact⟨rfl,rfl⟩) (t:aI L M L2:=by exact ar) (e:Ends L2 R:=by exact bE):Tr ρ0 ρ L (ret v) (SP r B R):=ax hv.e hB t e
class GN (k:LK) (off:Nat) (cs:List Value) (x:outParam (LT k)):Prop where
 e:cs[off]? =some (k.val x)
instance {k:LK} {v:Value} {cs:List Value} {x:LT k} [h:UnL k v x]:GN k 0 (v::cs) x:=⟨by rw[h.e];rfl⟩
instance {k:LK} {n:Nat} {v:Value} {cs:List Value} {x:LT k} [h:GN k n cs x]:GN k (n+1) (v::cs) x:=⟨by simpa using h.e⟩
class GP (ks:List LK) (vs:List Value) (x:outParam (LTs ks)):Prop where
 e:∃rest,vs=fq ks x++rest
instance {vs:List Value}:GP [] vs ():=⟨vs,rfl⟩
instance {k:LK} {ks:List LK} {v:Value} {vs:List Value} {x:LT k} {xs:LTs ks} [h:UnL k v x] [g:GP ks vs xs]:GP (k::ks) (v::vs) (x,xs):=⟨by obtain⟨r,e⟩:=g.e;exact⟨r,by rw[h.e,e];rfl⟩⟩
class GG (ks:List LK) (off:Nat) (cs:List Value) (x:outParam (LTs ks)):Prop where
 e:∃rest,cs.drop off=fq ks x++rest
instance {ks:List LK} {cs:List Value} {x:LTs ks} [h:GP ks cs x]:GG ks 0 cs x:=⟨by simpa using h.e⟩
instance {ks:List LK} {n:Nat} {v:Value} {cs:List Value} {x:LTs ks} [h:GG ks n cs x]:GG ks (n+1) (v::cs) x:=⟨by simpa using h.e⟩
theorem iL{k:LK}{b off:Nat}{x:LT k}{a:Addr}{f:LT k→Tree}{cs:List Value}(h:Tr ρ0 ρ L (f x) Post)(ha:a=⟨b,off,none⟩:=by first |rfl|rw[aO])(t:Take L (au b cs) L':=by exact tk)(hv:GN k off cs x:=by infer_instance):Tr ρ0 ρ L (ld (.l k) a f) Post:=aT ha t hv.e h
theorem jL{k:LK}{b off:Nat}{x:LT k}{M:List aD}{a:Addr}{f:LT k→Tree}{cs:List Value}(h:Tr ρ0 ρ L (f x) Post)(ha:a=⟨b,off,none⟩:=by first |rfl|rw[aO])(t:Take M (au b cs) L':=by exact tk)(hv:GN k off cs x:=by infer_instance):Tr ρ0 ρ L (rb (Sat ρ M) (.l k) a f) Post:=bo ha t hv.e h
theorem iN{k:LK}{b off:Nat}{x:LT k}{f:LT k→Tree}{cs:List Value}(h:Tr ρ0 ρ L (f x) Post)(t:Take L (au b cs) L':=by exact tk)(hv:GN k off cs x:=by infer_instance):Tr ρ0 ρ L (nn (oA b) fun a=>ld (.l k) (fa a off) f) Post:=af (aT (by rw[aO,Nat.zero_add]) t hv.e h)
theorem iT{b off:Nat}{a:Addr}{vs:List Value}{k:Tree}{cs:List Value}(h:Tr ρ0 ρ (au b (cH cs off vs)::L') k Post)(ha:a=⟨b,off,none⟩:=by first |rfl|rw[aO])(t:Take L (au b cs) L':=by exact tk)(hl:off+vs.length≤cs.length:=by simp)(h1:vs.all nA=true:=by rfl):Tr ρ0 ρ L (st a vs k) Post:=cz ha t hl h1 h
theorem bT{b:Bool}{x y:Tree}(hx:Tr ρ0 ρ L x Post)(hb:b=true:=by first |rfl|assumption|(simp;done)|(simp only[decide_eq_true_eq];omega)):Tr ρ0 ρ L (br b x y) Post:=bg hb hx
theorem bF{b:Bool}{x y:Tree}(hy:Tr ρ0 ρ L y Post)(hb:b=false:=by first |rfl|assumption|(simp;done)|(simp only[decide_eq_false_iff_not];omega)):Tr ρ0 ρ L (br b x y) Post:=ak hb hy
class BP (b:Bool) (p q:outParam Prop):Prop where
 t:b=true→p
 f:b=false→q
instance (priority:=low) {b:Bool}:BP b (b=true) (b=false):=⟨id,id⟩
instance {p:Prop} [Decidable p]:BP (decide p) p (¬p):=⟨of_decide_eq_true,of_decide_eq_false⟩
instance {α:Type} [BEq α] [LawfulBEq α] {a b:α}:BP (a==b) (a=b) (a≠b):=⟨eq_of_beq,ne_of_beq_false⟩
instance {α:Type} [BEq α] [LawfulBEq α] {a b:α}:BP (a != b) (a≠b) (a=b):=⟨fun h=>by simpa using h,fun h=>by simpa using h⟩
instance {a b:Int} [Decidable (a<b)]:BP (decide (a<b)) (a<b) (¬a<b):=⟨of_decide_eq_true,of_decide_eq_false⟩
instance {a b:Int} [Decidable (a≤b)]:BP (decide (a≤b)) (a≤b) (¬a≤b):=⟨of_decide_eq_true,of_decide_eq_false⟩
instance {a b:Int} [Decidable (a>b)]:BP (decide (a>b)) (a>b) (¬a>b):=⟨of_decide_eq_true,of_decide_eq_false⟩
instance {a b:Int} [Decidable (a≥b)]:BP (decide (a≥b)) (a≥b) (¬a≥b):=⟨of_decide_eq_true,of_decide_eq_false⟩
instance {a b:Int}:BP (a==b) (a=b) (a≠b):=⟨eq_of_beq,ne_of_beq_false⟩
instance {a b:Int}:BP (a != b) (a≠b) (a=b):=⟨fun h=>by simpa using h,fun h=>by simpa using h⟩
instance {b:Bool} {p q:Prop} [h:BP b p q]:BP (!b) q p:=⟨fun g=>h.f (by simpa using g),fun g=>h.t (by simpa using g)⟩
theorem bL{p:Prop}(h:p:=by first |(rw[aO];done)|(rw[aO,aO];done)):p:=h
theorem fX{p:Prop}(h:p:=by rintro b o rfl;first |(rw[aO];done)|(simp[aO];done)|(rw[aO,Int.toNat_natCast];done)|(simp[aO,Nat.add_assoc];done)):p:=h
theorem Spec.of{P:Program}{f:FuncId}{args:List Value}{A:List aD}{r:RK}{B:RT r→List aD→Prop}{T:Tree}
  (hc:∀(Q:Value→World→Prop) (w:World),T Q w→Calls P f args.toArray w fun e w'=>∃v,e= .returned v∧Q v w')
  (h:∀R,Tr ρ ρ (A++R) T (SP r B R)):Gl.Spec ρ P f args A r B:=fun R w hw=>by apply (hc _ w (h R (Le.refl _) w hw)).mono;rintro e w' ⟨v,rfl,L,⟨x,M,rfl,hB,rfl⟩,hsat⟩;exact⟨x,M,rfl,hB,hsat⟩
theorem So{P:Program}{f:FuncId}{args:List Value}{A:List aD}{r:RK}{B:RT r→List aD→Prop}{T:Tree}
  (hc:∀{Q:Value→World→Prop} {w:World},T Q w→Calls P f args.toArray w fun e w'=>∃v,e= .returned v∧Q v w') (h:∀R,Tr ρ ρ (A++R) T (SP r B R)):Gl.Spec ρ P f args A r B:=Spec.of (fun _ _ h=>hc h) h
end
section
open Go
def aw(s:av)(m:Nat)(xs:List Value):aD:=fun h=>
 (s.a=none∧s.n=0∧s.c=0∧xs=[]∧emp h)∨
 ∃b off pre rest,s.a=some ⟨b,off,none⟩∧List.length pre=off∧xs.length=s.n*m∧rest.length=(s.c-s.n)*m∧s.n≤s.c∧au b (pre++(xs++rest)) h
def fx(ρ:FR)(s:av)(m:Nat)(xs:List Value):Prop:=
 xs.length=s.n*m∧((s.n=0)∨∃b off cs ty fr,s.a=some ⟨b,off,none⟩∧ρ b=some (.cells cs ty fr)∧∀i,i<xs.length→cs[off+i]? =xs[i]?)
theorem fx.le{ρ ρ':FR}(h:Le ρ ρ'){s:av}{m:Nat}{xs:List Value}(H:fx ρ s m xs):fx ρ' s m xs:=by obtain⟨h1,h2⟩:=H;refine⟨h1,h2.imp id ?_⟩;rintro⟨b,off,cs,ty,fr,g1,g2,g3⟩;exact⟨b,off,cs,ty,fr,g1,h _ _ g2,g3⟩
variable{ρ0 ρ:FR}{L L':List aD}{Post:Value→List aD→Prop}
theorem Sat.sl{s:av}{m:Nat}{xs:List Value}{w:World}(H:Sat ρ (aw s m xs::L) w):
  (s.a=none∧s.n=0∧s.c=0∧xs=[]∧Sat ρ L w)∨
  ∃b off pre rest,s.a=some ⟨b,off,none⟩∧List.length pre=off∧xs.length=s.n*m∧rest.length=(s.c-s.n)*m∧s.n≤s.c∧Sat ρ (au b (pre++(xs++rest))::L) w:=by
 obtain⟨⟨h,⟨h1,h2,hd,rfl,ha,hl⟩,hh⟩,h3⟩:=H;rcases ha with ⟨g1,g2,g3,g4,g5⟩|⟨b,off,pre,rest,g1,g2,g3,g4,g5,g6⟩;·refine .inl ⟨g1,g2,g3,g4,⟨h2,hl,fun b o hb=>hh b o (by simp[g5 b,hb])⟩,h3⟩
 ·exact .inr ⟨b,off,pre,rest,g1,g2,g3,g4,g5,⟨_,⟨h1,h2,hd,rfl,g6,hl⟩,hh⟩,h3⟩
theorem Tr.fA{s:av}{m:Nat}{xs:List Value}{T:Tree}(t:Take L (aw s m xs) L')(h:xs.length=s.n*m→s.n≤s.c→Tr ρ0 ρ L T Post):Tr ρ0 ρ L T Post:=fun hle w hw=>by
 rcases(hw.perm t.perm).sl with ⟨g1,g2,g3,g4,_⟩|⟨b,off,pre,rest,g1,g2,g3,g4,g5,_⟩;·exact h (by rw[g4,g2];simp) ae hle w hw
 ·exact h g3 g5 hle w hw
theorem m8{α:Type}{pre xs rest:List α}{i:Nat}(h:i<xs.length):(pre++(xs++rest))[pre.length+i]? =xs[i]? :=by rw[List.getElem?_append_right ae,Nat.add_sub_cancel_left,List.getElem?_append_left h]
theorem bD{s:av}{m:Nat}{xs:List Value}{i:Int}{k:Addr→Tree}(t:Take L (aw s m xs) L')(h0:0≤i)(h1:i<s.n)(h:∀a0,s.a=some a0→Tr ρ0 ρ L (k (fa a0 (i.toNat*m))) Post):
  Tr ρ0 ρ L (ix s.a s.n i m k) Post:=fun hle w hw=>by
 rcases(hw.perm t.perm).sl with ⟨g1,g2,_⟩|⟨b,off,pre,rest,g1,_⟩;·omega
 ·exact⟨_,g1,h0,h1,h _ g1 hle w hw⟩
theorem cw{s:av}{m:Nat}{xs:List Value}{k:LK}{a a0:Addr}{f:LT k→Tree}{j:Nat}{x:LT k}(hs:s.a=some a0)(t:Take L (aw s m xs) L')(ha:∀b o,a0=⟨b,o,none⟩→a=⟨b,o+j,none⟩)
  (hx:xs[j]? =some (k.val x)) (h:Tr ρ0 ρ L (f x) Post):Tr ρ0 ρ L (Hk k a f) Post:=fun hle w hw=>by
 have hj:j<xs.length:=by
  rcases Nat.lt_or_ge j xs.length with h|h;·exact h
  ·rw[List.getElem?_eq_none h]at hx;cases hx
 rcases(hw.perm t.perm).sl with ⟨g1,g2,g3,g4,_⟩|⟨b,off,pre,rest,g1,g2,g3,g4,g5,g6⟩;·rw[g4]at hj;simp at hj
 ·rw[hs]at g1;injection g1 with g1;obtain⟨ty,hb⟩:=g6.cl;refine⟨x,?_,h hle w hw⟩;rw[ha b off g1];apply cell_of hb;rw[List.getElem?_toArray,←g2,m8 hj,hx]
theorem pW{pre xs rest vs:List Value}{j:Nat}(h:j+vs.length≤xs.length):cH (pre++(xs++rest)) (pre.length+j) vs=pre++(cH xs j vs++rest):=by
 induction vs generalizing xs j with
 |nil=>rfl
 |cons v vs ih=>simp only[List.length_cons]at h;simp only[cH];rw[List.set_append_right _ _ ae,Nat.add_sub_cancel_left,List.set_append_left _ _ ae];have:=ih (xs:=xs.set j v) (j:=j+1) fC;exact this
theorem kB{xs vs:List Value}{j:Nat}:(cH xs j vs).length=xs.length:=by
 induction vs generalizing xs j with
 |nil=>rfl
 |cons v vs ih=>simp only[cH];rw[ih];simp
theorem iR{s:av}{m:Nat}{xs:List Value}{a a0:Addr}{vs:List Value}{k:Tree}{j:Nat}(hs:s.a=some a0)(t:Take L (aw s m xs) L')(ha:∀b o,a0=⟨b,o,none⟩→a=⟨b,o+j,none⟩)
  (hl:j+vs.length≤xs.length) (h1:vs.all nA=true) (h:Tr ρ0 ρ (aw s m (cH xs j vs)::L') k Post):Tr ρ0 ρ L (st a vs k) Post:=fun hle w hw=>by
 rcases(hw.perm t.perm).sl with ⟨g1,g2,g3,g4,_⟩|⟨b,off,pre,rest,g1,g2,g3,g4,g5,g6⟩;·rw[hs]at g1;cases g1
 ·have g1':=g1;rw[hs]at g1;injection g1 with g1;have hT:Tr ρ0 ρ (au b (pre++(xs++rest))::L') (st a vs k) Post:=by apply cz (ha b _ g1) .here fC h1;rw[←g2,pW hl];refine Tr.imp .here (fun h hh=> .inr ⟨b,off,pre,rest,g1',g2,by rw[kB];exact g3,g4,g5,hh⟩) h
  exact hT hle w g6
theorem bz{s:av}{m:Nat}{xs:List Value}{i:Int}{k:Addr→Tree}(hr:fx ρ s m xs)(h0:0≤i)(h1:i<s.n)(h:∀a0,s.a=some a0→Tr ρ0 ρ L (k (fa a0 (i.toNat*m))) Post):
  Tr ρ0 ρ L (ix s.a s.n i m k) Post:=fun hle w hw=>by
 obtain⟨_,hr|⟨b,off,cs,ty,fr,g1,_⟩⟩:=hr;·omega
 ·exact⟨_,g1,h0,h1,h _ g1 hle w hw⟩
theorem cu{s:av}{m:Nat}{xs:List Value}{k:LK}{a a0:Addr}{f:LT k→Tree}{j:Nat}{x:LT k}(hs:s.a=some a0)(hr:fx ρ s m xs)(ha:∀b o,a0=⟨b,o,none⟩→a=⟨b,o+j,none⟩)
  (hx:xs[j]? =some (k.val x)) (h:Tr ρ0 ρ L (f x) Post):Tr ρ0 ρ L (Hk k a f) Post:=by
 have hj:j<xs.length:=by
  rcases Nat.lt_or_ge j xs.length with h|h;·exact h
  ·rw[List.getElem?_eq_none h]at hx;cases hx
 obtain⟨h1,hr|⟨b,off,cs,ty,fr,g1,g2,g3⟩⟩:=hr;·rw[hr]at h1;rw[h1]at hj;simp at hj
 ·rw[hs]at g1;injection g1 with g1;exact K4 (ha b _ g1) g2 (by rw[g3 j hj,hx]) h
theorem Tr.cL{s:av}{m:Nat}{xs:List Value}{T:Tree}(t:Take L (aw s m xs) L')(h:∀ρ',Le ρ ρ'→fx ρ' s m xs→Tr ρ0 ρ' L' T Post):Tr ρ0 ρ L T Post:=fun hle w hw=>by
 rcases(hw.perm t.perm).sl with ⟨g1,g2,g3,g4,g5⟩|⟨b,off,pre,rest,g1,g2,g3,g4,g5,g6⟩;·exact h ρ (Le.refl _) ⟨by rw[g4,g2];simp,.inl g2⟩ hle w g5
 ·have hT:Tr ρ0 ρ (au b (pre++(xs++rest))::L') T Post:=by refine Tr.kT .here fun ρ' ⟨ty,hρ⟩ hle'=>h ρ' hle' ⟨g3,.inr ⟨b,off,_,ty,_,g1,hρ,fun i hi=>?_⟩⟩;rw[List.getElem?_toArray,←g2,m8 hi]
  exact hT hle w g6
theorem aw.nI{b:Nat}{cs:List Value}{n m:Nat}(hl:cs.length=n*m)(h:HP)(H:au b cs h):aw ⟨oA b,n,n⟩ m cs h:=
 .inr ⟨b,0,[],[],rfl,rfl,hl,by simp,Nat.le_refl _,by simpa using H⟩
theorem aw.nil(m:Nat)(h:HP)(H:emp h):aw ⟨none,0,0⟩ m [] h:= .inl ⟨rfl,rfl,rfl,rfl,H⟩
theorem Tr.cg{T:Tree}(m:Nat)(h:Tr ρ0 ρ (aw ⟨none,0,0⟩ m []::L) T Post):Tr ρ0 ρ L T Post:=fun hle w hw=>by apply h hle w;obtain⟨⟨h0,hl,hh⟩,h3⟩:=hw;exact⟨⟨h0,⟨fun _=>none,h0,fun _=> .inl rfl,bu,aw.nil m _ (fun _=>rfl),hl⟩,hh⟩,h3⟩
theorem vY(n:Nat):∀(r c:Nat),256≤c→c≤2*n→Builtin.growBy n r c≤2*n
 |0,c,_,h=>by simpa[Builtin.growBy]using h
 |r+1,c,h0,h=>by
  unfold Builtin.growBy;split;·exact h
  ·exact vY n r _ ae ae
theorem nextslicecap_le{n c:Nat}(h:c<n):Builtin.nextslicecap n c≤2*n:=by
 unfold Builtin.nextslicecap;split;·omega
 ·split;·omega
  ·exact vY n 4 c ae ae
def Rd(ρ:FR)(L:List aD)(s:av)(m:Nat)(ys:List Value):Prop:=
 ys.length=s.n*m∧∀w,Sat ρ L w→s.n=0∨∃b off,s.a=some ⟨b,off,none⟩∧∀i,i<ys.length→w.cell? ⟨b,off+i,none⟩=ys[i]?
theorem Rd.ro{s:av}{m:Nat}{ys:List Value}(h:fx ρ s m ys):Rd ρ L s m ys:=by refine⟨h.1,fun w hw=>h.2.imp id ?_⟩;rintro⟨b,off,cs,ty,fr,g1,g2,g3⟩;refine⟨b,off,g1,fun i hi=>?_⟩;obtain⟨y,hy⟩:∃y,ys[i]? =some y:=⟨ys[i],by simp[hi]⟩;rw[hy];exact cell_of (hw.2 _ _ g2) (by rw[g3 i hi,hy])
theorem Rd.cl{s:av}{m:Nat}{ys:List Value}{b:Nat}(t:Take L (au b ys) L')(hs:s.a=oA b)(hl:ys.length=s.n*m):Rd ρ L s m ys:=by refine⟨hl,fun w hw=> .inr ⟨b,0,hs,fun i hi=>?_⟩⟩;obtain⟨ty,hb⟩:=(hw.perm t.perm).cl;obtain⟨y,hy⟩:∃y,ys[i]? =some y:=⟨ys[i],by simp[hi]⟩;rw[hy];exact cell_of hb (by simp[hy])
theorem Rd.sl{s:av}{m:Nat}{ys:List Value}(t:Take L (aw s m ys) L')(hl:ys.length=s.n*m):Rd ρ L s m ys:=by
 refine⟨hl,fun w hw=>?_⟩;rcases(hw.perm t.perm).sl with ⟨g1,g2,_⟩|⟨b,off,pre,rest,g1,g2,g3,g4,g5,g6⟩;·exact .inl g2
 ·refine .inr ⟨b,off,g1,fun i hi=>?_⟩;obtain⟨ty,hb⟩:=g6.cl;obtain⟨y,hy⟩:∃y,ys[i]? =some y:=⟨ys[i],by simp[hi]⟩;rw[hy];exact cell_of hb (by rw[List.getElem?_toArray,←g2,m8 hi,hy])
theorem iw{P:Program}{w:World}{s:av}{m:Nat}{ys:List Value}(hl:ys.length=s.n*m)(h:s.n=0∨∃b off,s.a=some ⟨b,off,none⟩∧∀i,i<ys.length→w.cell? ⟨b,off+i,none⟩=ys[i]?):
  (Builtin.firstCells m s.n (.slice s.a s.n s.c)).run P w= .ok ys.toArray w:=by
 rcases h with h|⟨b,off,hs,hc⟩
 ·rw[h]at hl;simp at hl;subst hl;cases hs:s.a with
  |none=>simp[Builtin.firstCells]
  |some a=>simp[Builtin.firstCells,h,loadCells,loadCellsFrom]
 ·rw[hs];have:=run_loadCells (P:=P) (ad:=⟨b,off,none⟩) ys 0 #[] (by intro j hj;rw[aO,Nat.zero_add];exact hc j hj);simp[Builtin.firstCells,loadCells,←hl,this]
def pY(P:Program)(ts:Array TypeId)(m bytes:Nat):Bool:=
 match ts.toList with
 |[t,x]=>(match P.underlying t with
  |some (.slice e)=>(match P.info? e with |some i=>i.size==m&&i.bytes==bytes&&(match i.zero with |some z=>z.cells.size==m|none=>false)|none=>false)
  |_=>false)&&(match P.underlying x with |some (.slice _)=>true|_=>false)
 |_=>false
theorem pF{vs:List Value}{w:World}{P:Program}{b:Nat}{off:Nat}{cs:List Value}{R:List aD}(H:Sat ρ (au b cs::R) w)(hv:vs.all nA=true)(hl:off+vs.length≤cs.length):
  (storeCells ⟨b,off,none⟩ vs).run P w= .ok () (D9 ⟨b,off,none⟩ 0 vs w):=by
 obtain⟨ty,hb⟩:=H.cl;refine ox vs 0 w hv fun j hj=>?_;rw[aO];have:off+(0+j)<cs.length:=by omega
 exact⟨by rw[cell_of hb (v:=cs[off+(0+j)]) (by simp[this])];rfl,by simp[World.frozen?,hb]⟩
theorem vK{xs rest ys:List Value}(h:ys.length≤rest.length):cH (xs++rest) xs.length ys=xs++ys++rest.drop ys.length:=by
 induction ys generalizing xs rest with
 |nil=>simp[cH]
 |cons y ys ih=>
  cases rest with
  |nil=>simp at h
  |cons r rest=>
   simp only[cH];have h1:(xs++r::rest).set xs.length y=(xs++[y])++rest:=by simp
   have h2:xs.length+1=(xs++[y]).length:=by simp
   rw[h1,h2,ih (by simpa using h)];simp
theorem pk{z:Array Value}{n:Nat}:(Builtin.zeroCells z n).size=n*z.size:=by simp[Builtin.zeroCells]
theorem eu{P:Program}{ts:Array TypeId}{ty:TypeId}{s x:av}{m bytes:Nat}{xs ys:List Value}{k:RT (.one (.l .slice))→Tree}(hok:pY P ts m bytes=true)(t:Take L (aw s m xs) L')
  (hy:Rd ρ L' x m ys) (h1:ys.all nA=true) (hb:2*(s.n+x.n)*bytes≤2^48) (hb2:s.n+x.n<2^62)
  (h:∀r:av,r.n=s.n+x.n→Tr ρ0 ρ (aw r m (xs++ys)::L') (k r) Post):
  Tr ρ0 ρ L (cM P (Builtin.append_ ts ty #[.slice s.a s.n s.c,.slice x.a x.n x.c]) (.one (.l .slice)) k) Post:=by
 refine Tr.take t (lF (fun r M=>∃r':av,r=r'∧r'.n=s.n+x.n∧M=aw r' m (xs++ys)::L') (fun w hw=>?_) ?_);rotate_left;·rintro r M ⟨r',rfl,hr,rfl⟩;exact h r hr
 ·unfold pY at hok;split at hok
  ·rename_i t1 t2 hts;rw[Bool.and_eq_true]at hok;obtain⟨hok1,hok2⟩:=hok;split at hok1
   ·rename_i e he;split at hok1
    ·rename_i inf hinf;simp only[Bool.and_eq_true,beq_iff_eq]at hok1;obtain⟨⟨hsz,hby⟩,hz⟩:=hok1;split at hz
     ·rename_i z hzz;simp only[beq_iff_eq]at hz;split at hok2
      ·rename_i e2 he2;have hsize:bZ P e=some m:=by simp[bZ,hinf,hsz]
       have hzero:(P.info? e).bind (·.zero)=some z:=by simp[hinf,hzz]
       have ht0:ts[0]? =some t1:=by have:=congrArg (fun l=>l[0]?) hts;simpa using this
       have ht1:ts[1]? =some t2:=by have:=congrArg (fun l=>l[1]?) hts;simpa using this
       have hyr:∀w',Sat ρ L' w'→(Builtin.firstCells m x.n _).run P w'= .ok ys.toArray w':=fun w' hw'=>iw hy.1 (hy.2 w' hw');have a0:(#[.slice s.a s.n s.c,.slice x.a x.n x.c]:Array Value)[0]? =some (.slice s.a s.n s.c):=rfl;have a1:(#[.slice s.a s.n s.c,.slice x.a x.n x.c]:Array Value)[1]? =some (.slice x.a x.n x.c):=rfl;unfold Builtin.append_;simp only[ht0,ht1,a0,a1,Sem.run_bind,run_underlying he,run_sizeOf hsize,run_underlying he2,Result.andThen_ok,Sem.run_pure,Bool.false_eq_true,if_false,Bool.not_false,if_true,Builtin.lenOf];by_cases hfit:s.n+x.n≤s.c
       ·simp only[if_pos hfit];rcases hw.sl with ⟨g1,g2,g3,g4,g5⟩|⟨b,off,pre,rest,g1,g2,g3,g4,g5,g6⟩
        ·have hx0:x.n=0:=by omega
         have hys:ys=[]:=by have:=hy.1;rw[hx0]at this;simpa using this
         have hyr':=hyr w g5;refine⟨s,w,_,?_,⟨s,rfl,ae,rfl⟩,?_⟩;·simp only[Sem.run_bind,hyr',Result.andThen_ok,g1,Sem.run_pure];simp[RK.val,KD.val,LK.val,g1,g2,g3,hx0]
         ·rw[hys,List.append_nil];exact hw
        ·have hyr':=hyr w g6.drop;have hle:s.n*m+ys.length≤(xs++rest).length:=by
          have h2:x.n≤s.c-s.n:=by omega
          have h3:=Nat.mul_le_mul_right m h2;simp only[List.length_append];have:=hy.1;omega
         have hst:=pF (P:=P) (off:=off+s.n*m) g6 h1 (by simp only[List.length_append]at*;omega);refine⟨⟨s.a,s.n+x.n,s.c⟩,D9 ⟨b,off+s.n*m,none⟩ 0 ys w,aw ⟨s.a,s.n+x.n,s.c⟩ m _::L',?_,⟨_,rfl,rfl,rfl⟩,?_⟩;·simp only[Sem.run_bind,hyr',Result.andThen_ok,g1,kh,aO];erw [hst];rfl
         ·have hs:=tb ys (off+s.n*m) 0 _ w g6;have e2:cH (pre++(xs++rest)) (off+s.n*m+0) ys=pre++((xs++ys)++rest.drop ys.length):=by
           have e3:cH (pre++(xs++rest)) (pre.length+s.n*m) ys=cH ((pre++xs)++rest) (pre++xs).length ys:=by rw[List.append_assoc,List.length_append,g3]
           rw[Nat.add_zero,←g2,e3,vK (by simp only[List.length_append]at hle;omega)];simp
          rw[e2]at hs;refine Sat.imp (fun h hh=> .inr ⟨b,off,pre,rest.drop ys.length,g1,g2,?_,?_,hfit,hh⟩) hs;·simp only[List.length_append,g3,hy.1,Nat.add_mul]
          ·simp only[List.length_drop,g4,hy.1];rw[←Nat.sub_mul];congr 1;omega
       ·simp only[if_neg hfit];have c1:¬((↑(s.n+x.n):Int)>IntKind.i64.max∧(False∨inf.bytes=0)):=by
         rintro⟨hgt,_⟩;have:IntKind.i64.max=9223372036854775807:=by decide
         omega
        have c2:¬(Builtin.nextslicecap (s.n+x.n) s.c*inf.bytes>2^48):=by rw[hby];have h3:=nextslicecap_le (n:=s.n+x.n) (c:=s.c) ae;have h4:=Nat.mul_le_mul_right bytes h3;omega
        let N:=(Question.appendCap (s.n+x.n) s.c e).cut (w.tape w.drawn (Question.appendCap (s.n+x.n) s.c e));have hN:s.n+x.n≤N:=by simp only[N,Question.cut];omega
        have hch:(choose (Question.appendCap _ s.c e)).run P w= .ok N {w with drawn:=w.drawn+1}:=rfl;have hw2:Sat ρ _ {w with drawn:=w.drawn+1}:=hw.drawn;have hold:=iw (P:=P) ((Rd.sl (ρ:=ρ) (L:=aw s m xs::L') .here (m:=m) (ys:=xs) (by
         rcases hw.sl with ⟨g1,g2,g3,g4,g5⟩|⟨b,off,pre,rest,g1,g2,g3,g4,g5,g6⟩;·rw[g4,g2];simp
         ·exact g3)).1) ((Rd.sl (ρ:=ρ) (L:=aw s m xs::L') .here (m:=m) (ys:=xs) (by
         rcases hw.sl with ⟨g1,g2,g3,g4,g5⟩|⟨b,off,pre,rest,g1,g2,g3,g4,g5,g6⟩;·rw[g4,g2];simp
         ·exact g3)).2 _ hw2);have hlen:xs.length=s.n*m:=by
         rcases hw.sl with ⟨g1,g2,g3,g4,g5⟩|⟨b,off,pre,rest,g1,g2,g3,g4,g5,g6⟩;·rw[g4,g2];simp
         ·exact g3
        have hyr':=hyr _ hw2.drop;have hti:∀w',(typeInfo e).run P w'= .ok inf w':=fun w'=>by simp[typeInfo,hinf]
        let W:World:={w with drawn:=w.drawn+1};let cs:Array Value:=xs.toArray++ys.toArray++Builtin.zeroCells z.cells (N-(s.n+x.n));refine⟨⟨oA W.heap.size,s.n+x.n,N⟩,W.alloc (.cells cs e),_,?_,⟨_,rfl,rfl,rfl⟩,?_⟩;·simp only[Sem.run_bind,hti,Result.andThen_ok,Sem.run_ite,if_neg c1,if_neg c2,hch,run_askRoom,hold,hyr',jj hzero];rfl
        ·have hnew:=Sat.zZ (t:=e) (cs:=cs.toList) hw2.drop;refine Sat.imp (fun h hh=> .inr ⟨_,0,[],(Builtin.zeroCells z.cells (N-(s.n+x.n))).toList,rfl,rfl,?_,?_,hN,?_⟩) hnew;·simp only[List.length_append,hlen,hy.1,Nat.add_mul]
         ·simp[pk,hz]
         ·simpa[cs]using hh
      ·cases hok2
     ·cases hz
    ·cases hok1
   ·cases hok1
  ·cases hok
theorem wrap64{n:Int}(h0: -9223372036854775808≤n)(h1:n<9223372036854775808):IntKind.wrap .i64 n=n:=by unfold IntKind.wrap IntKind.bits IntKind.signed;simp only[Bool.true_and,decide_eq_true_eq];split<;>omega
theorem bG{n:Int}(h0: -9223372036854775808≤n:=by omega)(h1:n<9223372036854775808:=by omega):IntKind.wrap .i64 n=n:=wrap64 h0 h1
theorem G9{z:Array Value}{n m:Nat}(hz:z.size=m):((Array.range (n*m)).map (z[·%z.size]!))=(List.replicate n z.toList).flatten.toArray:=(sA hz).symm
theorem mg{P:Program}{t e:TypeId}{m bytes:Nat}{z:Value}{n:Int}{k:RT (.one (.l .slice))→Tree}(hu:P.underlying t=some (.slice e))
  (hi:(P.info? e).map (fun i=>(i.size,i.bytes,i.zero))=some (m,bytes,some z)) (hz:z.cells.size=m) (h0:0≤n) (h1:bytes*n≤2^48) (h2:n<2^62)
  (h:∀b,Tr ρ0 ρ (aw ⟨oA b,n.toNat,n.toNat⟩ m (List.replicate n.toNat z.cells.toList).flatten::L) (k ⟨oA b,n.toNat,n.toNat⟩) Post):
  Tr ρ0 ρ L (cM P (Instr.makeSlice t (.int .i64 n) (.int .i64 n)) (.one (.l .slice)) k) Post:=by
 cases hinf:P.info? e with
 |none=>rw[hinf]at hi;simp at hi
 |some inf=>
 rw[hinf]at hi;simp only[Option.map_some,Option.some.injEq,Prod.mk.injEq]at hi;obtain⟨hs,hby,hzz⟩:=hi;have hsize:bZ P e=some m:=by simp[bZ,hinf,hs]
 have hzero:(P.info? e).bind (·.zero)=some z:=by simp[hinf,hzz]
 refine lF (fun r M=>∃b,r=⟨oA b,n.toNat,n.toNat⟩∧M=aw ⟨oA b,n.toNat,n.toNat⟩ m (List.replicate n.toNat z.cells.toList).flatten::L) (fun w hw=>?_) ?_;rotate_left;·rintro r M ⟨b,rfl,rfl⟩;exact h b
 ·have hti:(typeInfo e).run P w= .ok inf w:=by simp[typeInfo,hinf]
  have hwr:IntKind.i64.wrap n=n:=bG;have hc:¬((decide (n<0)||decide ((inf.bytes:Int)*n>2^48)||decide (n<0)||decide (n>n))=true):=by rw[hby];simp;omega
  refine⟨_,w.alloc (.cells (List.replicate n.toNat z.cells.toList).flatten.toArray e),_,?_,⟨w.heap.size,rfl,rfl⟩,?_⟩
  ·unfold Instr.makeSlice;simp only[Sem.run_bind,run_underlying hu,Result.andThen_ok,asInt,asIntOf,Sem.run_pure,hti,hwr];rw[if_neg hc];simp only[Sem.run_bind,run_askRoom,Result.andThen_ok,run_sizeOf hsize];by_cases h0:n.toNat*m=0
   ·have e1:(List.replicate n.toNat z.cells.toList).flatten=[]:=by apply List.eq_nil_of_length_eq_zero;simp[List.length_flatten,hz,h0]
    have e0:∀z0:Array Value,((Array.range (n.toNat*m)).map fun x=>z0[x%z0.size]!)= #[]:=by intro z0;rw[h0];simp
    rw[if_pos h0,e1];simp only[Sem.run_bind,Sem.run_pure,Result.andThen_ok,e0,newRow,run_newObj];rfl
   ·rw[if_neg h0];simp only[Sem.run_bind,Sem.run_pure,Result.andThen_ok,jj hzero,G9 hz,newRow,run_newObj];rfl
  ·refine Sat.imp (fun h hh=>aw.nI ?_ h hh) hw.zZ;simp[List.length_flatten,hz]
end
end Go.Gl
namespace Go.Proofs.YtjginndmmlkjiaaGreat
section
open Go Go.Gl
abbrev OA:=Option Addr
noncomputable abbrev Zp:=Tryz.prog
theorem Tryz.Kz:eW Zp=true:=by kernel_rfl
theorem Tryz.mixed:Tryz.prog.follows .mixedOrders=true:=by kernel_rfl
abbrev Cf(f:FuncId)(a:List Value)(T:Tree):Prop:=∀{Q:Value→World→Prop} {w:World},T Q w→Calls Zp f a.toArray w (Mi Q)
theorem Tryz.ce(T:az){f:FuncId}{fn:Func}(hf:Tryz.prog.funcs[f]? =some fn)(es:List E1){t:Tree}{a:List Value}(hB:(fn.body.map (p7 T)).getD false=true:=by kernel_rfl)(hes:E1.vs es=some a:=by rfl)(hd:Jk Zp T fn es=t:=by kernel_rfl):Cf f a t:=fun{Q w} h=>xG Tryz.Kz Tryz.mixed T hf hB hes (by rw[hd];exact h)
theorem Lv:∀a:List Value,E1.vs (a.map .va)=some a |[]=>rfl |x::a=>by simp only[List.map,E1.vs,Lv a];rfl
theorem Tryz.cd(T:az){f:FuncId}{fn:Func}(hf:Tryz.prog.funcs[f]? =some fn){t:Tree}{a:List Value}(hB:(fn.body.map (p7 T)).getD false=true:=by kernel_rfl)(hd:Jk Zp T fn (a.map .va)=t:=by kernel_rfl):Cf f a t:=Tryz.ce T hf (a.map .va) hB (Lv a) hd
def gF:List Nat→HT→HT |[],t=>t |i::l,t=> .go i false (gF l t)
abbrev dI(a:Addr)(K:Int→Tree):Tree:=ld (.l kI) a K
abbrev dS(a:Addr)(K:av→Tree):Tree:=ld (.l .slice) a K
abbrev dP(a:Addr)(K:Option Addr→Tree):Tree:=ld (.l .ptr) a K
abbrev dB(a:Addr)(K:Bool→Tree):Tree:=ld (.l .bool) a K
abbrev dG(l:List LK)(a:Addr)(K:LTs l→Tree):Tree:=ld (.g l) a K
abbrev eI(S:World→Prop)(a:Addr)(K:Int→Tree):Tree:=rb S (.l kI) a K
abbrev eS(S:World→Prop)(a:Addr)(K:av→Tree):Tree:=rb S (.l .slice) a K
abbrev eP(S:World→Prop)(a:Addr)(K:Option Addr→Tree):Tree:=rb S (.l .ptr) a K
abbrev eB(S:World→Prop)(a:Addr)(K:Bool→Tree):Tree:=rb S (.l .bool) a K
abbrev eG(S:World→Prop)(l:List LK)(a:Addr)(K:LTs l→Tree):Tree:=rb S (.g l) a K
abbrev cI(f:FuncId)(a:List Value)(K:Int→Tree):Tree:=call Zp f a (.one (.l kI)) K
abbrev cB(f:FuncId)(a:List Value)(K:Bool→Tree):Tree:=call Zp f a (.one (.l .bool)) K
abbrev cS(f:FuncId)(a:List Value)(K:av→Tree):Tree:=call Zp f a (.one (.l .slice)) K
abbrev cP(f:FuncId)(a:List Value)(K:Option Addr→Tree):Tree:=call Zp f a (.one (.l .ptr)) K
abbrev cG(f:FuncId)(a:List Value)(l:List LK)(K:LTs l→Tree):Tree:=call Zp f a (.one (.g l)) K
abbrev cN(f:FuncId)(a:List Value)(l:List KD)(K:KTs l→Tree):Tree:=call Zp f a (.many l) K
abbrev ap(t:TypeId)(a b:Value)(K:av→Tree):Tree:=cM Zp (Builtin.append_ #[t,t] t #[a,b]) (.one (.l .slice)) K
abbrev pV(a:OA):Value:= .pointer a
abbrev sV(s:av):Value:= .slice s.a s.n s.c
abbrev aB(b:Nat):Addr:=⟨b,0,none⟩
set_option maxRecDepth 100000
def F.object.bN.iQ.T:az:=⟨(fun|5=>[(3,.slice),(18,kI)]|10=>[(34,kI)]|_=>[]),fun _=>none,fun _=> .quiet⟩
def F.object.bN.iQ(p0:OA):Tree:=br (Option.isNone p0) (ret (.slice none 0 0)) (nn p0 fun a1=>dP (fa a1 0) fun x2=>cS 136 [pV x2] fun r3=>lp [.slice,kI] (fun X4 u5=>br (decide ((u5.2.1:Int)<(r3.n:Nat))) (ix r3.a r3.n u5.2.1 1 fun a6=>dI a6 fun x7=>nw 74 (zc Zp 74) fun b8=>st (aB b8) [i64 x7,i64 0,i64 0,i64 0,.bool false,.slice none 0 0]<|cN 137 [pV p0,i64 x7] [.g [kI,kI,kI,.bool],.l kI] fun r9=>st (fa (aB b8) 1) [i64 r9.1.1,i64 r9.1.2.1,i64 r9.1.2.2.1,.bool r9.1.2.2.2.1]<|dI (fa (fa (aB b8) 1) 2) fun x10=>lp [kI] (fun X11 u12=>br (decide ((u12.1:Int)<x10)) (cN 138 [pV p0,i64 x7,i64 u12.1] [.l kI,.l kI] fun r13=>dS (fa (aB b8) 5) fun x14=>nw 3 [i64 r13.1] fun b15=>ap 43 (sV x14) (.slice (some ⟨b15,0,none⟩) 1 1) fun r16=>st (fa (aB b8) 5) [sV r16]<|X11 (IntKind.wrap .i64 (u12.1+1),())) (dG [kI,kI,kI,kI,.bool,.slice] (aB b8) fun x13=>nw 74 [i64 x13.1,i64 x13.2.1,i64 x13.2.2.1,i64 x13.2.2.2.1,.bool x13.2.2.2.2.1,sV x13.2.2.2.2.2.1] fun b14=>ap 41 (sV u5.1) (.slice (some ⟨b14,0,none⟩) 1 1) fun r15=>X4 (r15,IntKind.wrap .i64 (u5.2.1+1),()))) (0,())) (ret (sV u5.1))) (⟨none,0,0⟩,0,()))
theorem F.object.bN.iQ.calls(p0:OA):Cf 67 [pV p0] (F.object.bN.iQ p0):=Tryz.cd F.object.bN.iQ.T Tryz.func67
def F.space.aV.Used.T:az:=⟨(fun|3=>[(3,kI),(12,kI)]|_=>[]),fun _=>none,fun _=> .quiet⟩
def F.space.aV.Used(p0:OA):Tree:=cS 136 [pV p0] fun r1=>lp [kI,kI] (fun X2 u3=>br (decide ((u3.2.1:Int)<(r1.n:Nat))) (ix r1.a r1.n u3.2.1 1 fun a4=>dI a4 fun x5=>cN 142 [pV p0,i64 x5] [.l kI,.l kI,.l .bool] fun r6=>X2 (IntKind.wrap .i64 (u3.1+r6.2.1),IntKind.wrap .i64 (u3.2.1+1),())) (ret (i64 u3.1))) (0,0,())
theorem F.space.aV.Used.calls(p0:OA):Cf 74 [pV p0] (F.space.aV.Used p0):=Tryz.cd F.space.aV.Used.T Tryz.func74
def F.object.gB(p0:Int):Tree:=cN 155 [i64 p0] [.l .ptr,.l kI] fun r1=>br ((r1.2.1:Int) != 0) (ret (.tuple #[pV none,i64 r1.2.1])) (cP 156 [] fun r2=>nw 139 [pV r1.1,pV r2] fun b3=>ret (.tuple #[pV (some (aB b3)),i64 0]))
theorem F.object.gB.calls(p0:Int):Cf 94 [i64 p0] (F.object.gB p0):=Tryz.cd az.z Tryz.func94
def F.space.aV.tZ.T:az:=⟨(fun|5=>[(3,.slice)]|8=>[(3,.slice),(6,kI)]|12=>[(3,.slice)]|_=>[]),fun _=>none,fun _=> .quiet⟩
def F.space.aV.tZ(p0:OA):Tree:=br (Option.isNone p0) (ret (.slice none 0 0)) (nn p0 fun a1=>ld (.l .map) (fa a1 2) fun(x2:Option Nat)=>cM Zp (Instr.range 256 (.map x2)) (.one (.l .ptr)) fun(r3:OA)=>lp [.slice] (fun X4 u5=>vu Zp (Instr.next (pV r3) false 0) (.l kI) (.l .ptr) (nn p0 fun a8=>ld (.l .map) (fa a8 3) fun(x9:Option Nat)=>cM Zp (Instr.range 257 (.map x9)) (.one (.l .ptr)) fun(r10:OA)=>lp [.slice] (fun X11 u12=>vu Zp (Instr.next (pV r10) false 0) (.l kI) (.l kI) (cN 196 [sV u12.1] [] fun r15=>ret (sV u12.1)) (fun(k13:Int) (v14:Int)=>cM Zp (Instr.entry (pV r10)) (.many [.l kI,.l kI]) fun(r16:KTs _)=>nw 3 [i64 (IntKind.wrap .i64 (r16.1*64))] fun b17=>ap 43 (sV u12.1) (.slice (some ⟨b17,0,none⟩) 1 1) fun r18=>X11 (r18,()))) (u5.1,())) (fun(k6:Int) (v7:OA)=>cM Zp (Instr.entry (pV r3)) (.many [.l kI,.l .ptr]) fun(r19:KTs _)=>nn r19.2.1 fun a20=>dP (fa a20 0) fun x21=>cI 194 [pV x21,i64 0,.bool true] fun r22=>lp [.slice,kI] (fun X23 u24=>br (decide ((u24.2.1:Int)≥0)) (cI 195 [pV r19.2.1] fun r25=>nw 3 [i64 (IntKind.wrap .i64 ((IntKind.wrap .i64 (r19.1*64))+(IntKind.wrap .i64 (u24.2.1*r25))))] fun b26=>ap 43 (sV u24.1) (.slice (some ⟨b26,0,none⟩) 1 1) fun r27=>nn r19.2.1 fun a28=>dP (fa a28 0) fun x29=>cI 194 [pV x29,i64 (IntKind.wrap .i64 (u24.2.1+1)),.bool true] fun r30=>X23 (r27,r30,())) (X4 (u24.1,()))) (u5.1,r22,()))) (⟨none,0,0⟩,()))
theorem F.space.aV.tZ.calls(p0:OA):Cf 136 [pV p0] (F.space.aV.tZ p0):=Tryz.cd F.space.aV.tZ.T Tryz.func136
def F.object.bN.Head(p0:OA)(p1:Int):Tree:=nw 72 (zc Zp 72) fun b1=>br (Option.isNone p0) (st (aB b1) [i64 0,i64 0,i64 0,.bool false]<|dG [kI,kI,kI,.bool] (aB b1) fun x2=>ret (.tuple #[.agg #[i64 x2.1,i64 x2.2.1,i64 x2.2.2.1,.bool x2.2.2.2.1],i64 2])) (nn p0 fun a2=>dP (fa a2 0) fun x3=>cN 142 [pV x3,i64 p1] [.l kI,.l kI,.l .bool] fun r4=>br (!r4.2.2.1) (st (aB b1) [i64 0,i64 0,i64 0,.bool false]<|dG [kI,kI,kI,.bool] (aB b1) fun x5=>ret (.tuple #[.agg #[i64 x5.1,i64 x5.2.1,i64 x5.2.2.1,.bool x5.2.2.2.1],i64 2])) (br ((r4.1:Int) != p1) (st (aB b1) [i64 0,i64 0,i64 0,.bool false]<|dG [kI,kI,kI,.bool] (aB b1) fun x5=>ret (.tuple #[.agg #[i64 x5.1,i64 x5.2.1,i64 x5.2.2.1,.bool x5.2.2.2.1],i64 2])) (nn p0 fun a5=>dP (fa a5 0) fun x6=>nn x6 fun a7=>dP (fa a7 0) fun x8=>cN 197 [pV x8,i64 p1] [.l kI,.l kI] fun r9=>br ((r9.2.1:Int) != 0) (st (aB b1) [i64 0,i64 0,i64 0,.bool false]<|dG [kI,kI,kI,.bool] (aB b1) fun x10=>ret (.tuple #[.agg #[i64 x10.1,i64 x10.2.1,i64 x10.2.2.1,.bool x10.2.2.2.1],i64 r9.2.1])) (cN 198 [i64 r9.1] [.g [kI,kI,kI,.bool],.l .bool] fun r10=>nw 72 (zc Zp 72) fun b11=>st (aB b11) [i64 r10.1.1,i64 r10.1.2.1,i64 r10.1.2.2.1,.bool r10.1.2.2.2.1]<|br (!r10.2.1) (st (aB b1) [i64 0,i64 0,i64 0,.bool false]<|dG [kI,kI,kI,.bool] (aB b1) fun x12=>ret (.tuple #[.agg #[i64 x12.1,i64 x12.2.1,i64 x12.2.2.1,.bool x12.2.2.2.1],i64 2])) (dG [kI,kI,kI,.bool] (aB b11) fun x12=>st (aB b1) [i64 x12.1,i64 x12.2.1,i64 x12.2.2.1,.bool x12.2.2.2.1]<|dG [kI,kI,kI,.bool] (aB b1) fun x13=>ret (.tuple #[.agg #[i64 x13.1,i64 x13.2.1,i64 x13.2.2.1,.bool x13.2.2.2.1],i64 0]))))))
theorem F.object.bN.Head.calls(p0:OA)(p1:Int):Cf 137 [pV p0,i64 p1] (F.object.bN.Head p0 p1):=Tryz.cd az.z Tryz.func137
def F.object.bN.Field(p0:OA)(p1 p2:Int):Tree:=cN 199 [pV p0,i64 p1,i64 p2] [.l kI,.l kI] fun r1=>br ((r1.2.1:Int) != 0) (ret (.tuple #[i64 0,i64 r1.2.1])) (nn p0 fun a2=>dP (fa a2 0) fun x3=>nn x3 fun a4=>dP (fa a4 0) fun x5=>cN 197 [pV x5,i64 r1.1] [.l kI,.l kI] fun r6=>ret (.tuple #[i64 r6.1,i64 r6.2.1]))
theorem F.object.bN.Field.calls(p0:OA)(p1 p2:Int):Cf 138 [pV p0,i64 p1,i64 p2] (F.object.bN.Field p0 p1 p2):=Tryz.cd az.z Tryz.func138
def F.aL.Gf(p0:av):Tree:=br (Option.isNone p0.a) (ret (.slice none 0 0)) (nw 3 [] fun b1=>ap 43 (.slice (some ⟨b1,0,none⟩) 0 0) (sV p0) fun r2=>ret (sV r2))
theorem F.aL.Gf.calls(p0:av):Cf 140 [sV p0] (F.aL.Gf p0):=Tryz.cd az.z Tryz.func140
def F.space.aV.Find.T:az:=⟨(fun|11=>[]|_=>[]),fun _=>none,fun _=> .quiet⟩
def F.space.aV.Find(p0:OA)(p1:Int):Tree:=br (Option.isNone p0) (ret (.tuple #[i64 0,i64 0,.bool false])) (br (decide ((p1:Int)<0)) (ret (.tuple #[i64 0,i64 0,.bool false])) (nn p0 fun a1=>dP (fa a1 0) fun x2=>cI 202 [pV x2] fun r3=>br (decide ((p1:Int)≥r3)) (ret (.tuple #[i64 0,i64 0,.bool false])) (dE ((64:Int)≠0)<|nn p0 fun a4=>ld (.l .map) (fa a4 2) fun(x5:Option Nat)=>cM Zp (Instr.lookup 256 (.map x5) (i64 (IntKind.wrap .i64 (Int.tdiv p1 64))) true) (.many [.l .ptr,.l .bool]) fun(r6:KTs _)=>br r6.2.1 (dE ((64:Int)≠0)<|cI 195 [pV r6.1] fun r7=>dE ((r7:Int)≠0)<|nn r6.1 fun a8=>dP (fa a8 0) fun x9=>cB 203 [pV x9,i64 (IntKind.wrap .i64 (Int.tdiv (Int.tmod p1 64) r7))] fun r10=>br (!r10) (ret (.tuple #[i64 0,i64 0,.bool false])) (cI 195 [pV r6.1] fun r11=>cI 195 [pV r6.1] fun r12=>ret (.tuple #[i64 (IntKind.wrap .i64 ((IntKind.wrap .i64 ((IntKind.wrap .i64 (Int.tdiv p1 64))*64))+(IntKind.wrap .i64 ((IntKind.wrap .i64 (Int.tdiv (Int.tmod p1 64) r7))*r11)))),i64 r12,.bool true]))) (nn p0 fun a7=>ld (.l .map) (fa a7 3) fun(x8:Option Nat)=>cM Zp (Instr.range 257 (.map x8)) (.one (.l .ptr)) fun(r9:OA)=>lp [] (fun X10 u11=>vu Zp (Instr.next (pV r9) false 0) (.l kI) (.l kI) (ret (.tuple #[i64 0,i64 0,.bool false])) (fun(k12:Int) (v13:Int)=>cM Zp (Instr.entry (pV r9)) (.many [.l kI,.l kI]) fun(r14:KTs _)=>br (decide ((IntKind.wrap .i64 (Int.tdiv p1 64):Int)≥r14.1)) (br (decide ((IntKind.wrap .i64 (Int.tdiv p1 64):Int)<(IntKind.wrap .i64 (r14.1+r14.2.1)))) (ret (.tuple #[i64 (IntKind.wrap .i64 (r14.1*64)),i64 (IntKind.wrap .i64 (r14.2.1*64)),.bool true])) (X10 (()))) (X10 (())))) (())))))
theorem F.space.aV.Find.calls(p0:OA)(p1:Int):Cf 142 [pV p0,i64 p1] (F.space.aV.Find p0 p1):=Tryz.cd F.space.aV.Find.T Tryz.func142
def F.fo.nH.T:az:=⟨(fun|3=>[(5,kI),(12,kI)]|_=>[]),fun _=>none,fun _=> .quiet⟩
def F.fo.nH(p0:OA)(p1:av):Tree:=cS 217 [pV p0,sV p1] fun r1=>lp [kI,kI] (fun X2 u3=>br (decide ((u3.2.1:Int)<(r1.n:Nat))) (ix r1.a r1.n u3.2.1 1 fun a4=>dI a4 fun x5=>nn p0 fun a6=>dP (fa a6 0) fun x7=>cI 218 [pV x7,i64 x5] fun r8=>br ((r8:Int)==0) (X2 (IntKind.wrap .i64 (u3.1+1),IntKind.wrap .i64 (u3.2.1+1),())) (X2 (u3.1,IntKind.wrap .i64 (u3.2.1+1),()))) (ret (i64 u3.1))) (0,0,())
theorem F.fo.nH.calls(p0:OA)(p1:av):Cf 152 [pV p0,sV p1] (F.fo.nH p0 p1):=Tryz.cd F.fo.nH.T Tryz.func152
def F.space.gB(p0:Int):Tree:=cN 219 [i64 p0] [.l .ptr,.l kI] fun r1=>br ((r1.2.1:Int) != 0) (ret (.tuple #[pV none,i64 r1.2.1])) (cN 220 [i64 p0] [.l .ptr,.l kI] fun r2=>br ((r2.2.1:Int) != 0) (ret (.tuple #[pV none,i64 r2.2.1])) (KH fun b3=>KH fun b4=>nw 259 [pV r1.1,pV r2.1,.map (some b3),.map (some b4)] fun b5=>ret (.tuple #[pV (some (aB b5)),i64 0])))
theorem F.space.gB.calls(p0:Int):Cf 155 [i64 p0] (F.space.gB p0):=Tryz.cd az.z Tryz.func155
def F.class.gB:Tree:=nw 292 [.slice none 0 0] fun b1=>ret (pV (some (aB b1)))
theorem F.class.gB.calls:Cf 156 [] (F.class.gB):=Tryz.cd az.z Tryz.func156
def F.class.Table.Of(p0:OA)(p1:Int)(p2:av):Tree:=cN 221 [pV p0,.agg #[i64 p1,sV p2]] [.l kI,.l kI] fun r1=>ret (.tuple #[i64 r1.1,i64 r1.2.1])
theorem F.class.Table.Of.calls(p0:OA)(p1:Int)(p2:av):Cf 158 [pV p0,i64 p1,sV p2] (F.class.Table.Of p0 p1 p2):=Tryz.cd az.z Tryz.func158
def F.class.Table.Class(p0:OA)(p1:Int):Tree:=nw 109 (zc Zp 109) fun b1=>br (decide ((p1:Int)<1)) (st (aB b1) [i64 0,.slice none 0 0]<|dG [kI,.slice] (aB b1) fun x2=>ret (.tuple #[.agg #[i64 x2.1,sV x2.2.1],i64 2])) (cI 222 [pV p0] fun r2=>br (decide ((p1:Int)>r2)) (st (aB b1) [i64 0,.slice none 0 0]<|dG [kI,.slice] (aB b1) fun x3=>ret (.tuple #[.agg #[i64 x3.1,sV x3.2.1],i64 2])) (nn p0 fun a3=>dS (fa a3 0) fun x4=>ix x4.a x4.n (IntKind.wrap .i64 (p1-1)) 2 fun a5=>dG [kI,.slice] a5 fun x6=>cG 223 [.agg #[i64 x6.1,sV x6.2.1]] [kI,.slice] fun r7=>st (aB b1) [i64 r7.1,sV r7.2.1]<|dG [kI,.slice] (aB b1) fun x8=>ret (.tuple #[.agg #[i64 x8.1,sV x8.2.1],i64 0])))
theorem F.class.Table.Class.calls(p0:OA)(p1:Int):Cf 159 [pV p0,i64 p1] (F.class.Table.Class p0 p1):=Tryz.cd az.z Tryz.func159
def F.object.bN.Ge(p0:OA)(p1 p2 p3:Int):Tree:=cN 199 [pV p0,i64 p1,i64 p2] [.l kI,.l kI] fun r1=>br ((r1.2.1:Int) != 0) (ret (i64 r1.2.1)) (nn p0 fun a2=>dP (fa a2 0) fun x3=>nn x3 fun a4=>dP (fa a4 0) fun x5=>cI 230 [pV x5,i64 r1.1,i64 p3] fun r6=>ret (i64 r6))
theorem F.object.bN.Ge.calls(p0:OA)(p1 p2 p3:Int):Cf 165 [pV p0,i64 p1,i64 p2,i64 p3] (F.object.bN.Ge p0 p1 p2 p3):=Tryz.cd az.z Tryz.func165
def F.space.aV.Cap(p0:OA):Tree:=br (Option.isNone p0) (ret (i64 0)) (nn p0 fun a1=>dP (fa a1 0) fun x2=>cI 202 [pV x2] fun r3=>ret (i64 (IntKind.wrap .i64 (r3-64))))
theorem F.space.aV.Cap.calls(p0:OA):Cf 179 [pV p0] (F.space.aV.Cap p0):=Tryz.cd az.z Tryz.func179
def F.bits.Bits.Next.T:az:=⟨(fun|2=>[(7,kI)]|_=>[]),fun _=>none,fun _=> .quiet⟩
def F.bits.Bits.Next(p0:OA)(p1:Int)(p2:Bool):Tree:=lp [kI] (fun X1 u2=>cI 242 [pV p0] fun r3=>br (decide ((u2.1:Int)<r3)) (nn p0 fun a4=>dS (fa a4 0) fun x5=>ix x5.a x5.n u2.1 1 fun a6=>dB a6 fun x7=>br (x7==p2) (ret (i64 u2.1)) (X1 (IntKind.wrap .i64 (u2.1+1),()))) (ret (i64 (-1)))) ((if(p1:Int)>0 then(p1:Int)else 0),())
theorem F.bits.Bits.Next.calls(p0:OA)(p1:Int)(p2:Bool):Cf 194 [pV p0,i64 p1,.bool p2] (F.bits.Bits.Next p0 p1 p2):=Tryz.cd F.bits.Bits.Next.T Tryz.func194
def F.block.me.Words(p0:OA):Tree:=br (Option.isNone p0) (ret (i64 0)) (nn p0 fun a1=>dI (fa a1 1) fun x2=>ret (i64 x2))
theorem F.block.me.Words.calls(p0:OA):Cf 195 [pV p0] (F.block.me.Words p0):=Tryz.cd az.z Tryz.func195
def F.ir.kO.Lh(p0:OA)(p1:Int):Tree:=br (Option.isNone p0) (ret (.tuple #[i64 0,i64 2])) (nn p0 fun a1=>cB 245 [pV (some (fa a1 0)),i64 p1] fun r2=>br (!r2) (ret (.tuple #[i64 0,i64 2])) (nn p0 fun a3=>dS (fa (fa a3 0) 0) fun x4=>ix x4.a x4.n p1 1 fun a5=>dI a5 fun x6=>ret (.tuple #[i64 x6,i64 0])))
theorem F.ir.kO.Lh.calls(p0:OA)(p1:Int):Cf 197 [pV p0,i64 p1] (F.ir.kO.Lh p0 p1):=Tryz.cd az.z Tryz.func197
def F.head.Mq(p0:Int):Tree:=nw 72 (zc Zp 72) fun b1=>br (decide ((p0:Int)<0)) (st (aB b1) [i64 0,i64 0,i64 0,.bool false]<|dG [kI,kI,kI,.bool] (aB b1) fun x2=>ret (.tuple #[.agg #[i64 x2.1,i64 x2.2.1,i64 x2.2.2.1,.bool x2.2.2.2.1],.bool false])) (dE ((8:Int)≠0)<|dE ((8:Int)≠0)<|dE ((2:Int)≠0)<|dE ((65536:Int)≠0)<|dE ((16:Int)≠0)<|dE ((65536:Int)≠0)<|nw 72 (zc Zp 72) fun b2=>st (aB b2) [i64 (Int.tmod p0 8),i64 (IntKind.wrap .i64 (Int.tdiv (Int.tmod p0 65536) 16)),i64 (IntKind.wrap .i64 (Int.tdiv p0 65536)),.bool ((Int.tmod (IntKind.wrap .i64 (Int.tdiv p0 8)) 2:Int)==1)]<|dG [kI,kI,kI,.bool] (aB b2) fun x3=>cN 246 [.agg #[i64 x3.1,i64 x3.2.1,i64 x3.2.2.1,.bool x3.2.2.2.1]] [.l kI,.l .bool] fun r4=>br (!r4.2.1) (st (aB b1) [i64 0,i64 0,i64 0,.bool false]<|dG [kI,kI,kI,.bool] (aB b1) fun x5=>ret (.tuple #[.agg #[i64 x5.1,i64 x5.2.1,i64 x5.2.2.1,.bool x5.2.2.2.1],.bool false])) (br ((r4.1:Int) != p0) (st (aB b1) [i64 0,i64 0,i64 0,.bool false]<|dG [kI,kI,kI,.bool] (aB b1) fun x5=>ret (.tuple #[.agg #[i64 x5.1,i64 x5.2.1,i64 x5.2.2.1,.bool x5.2.2.2.1],.bool false])) (dG [kI,kI,kI,.bool] (aB b2) fun x5=>st (aB b1) [i64 x5.1,i64 x5.2.1,i64 x5.2.2.1,.bool x5.2.2.2.1]<|dG [kI,kI,kI,.bool] (aB b1) fun x6=>ret (.tuple #[.agg #[i64 x6.1,i64 x6.2.1,i64 x6.2.2.1,.bool x6.2.2.2.1],.bool true]))))
theorem F.head.Mq.calls(p0:Int):Cf 198 [i64 p0] (F.head.Mq p0):=Tryz.cd az.z Tryz.func198
def F.object.bN.field(p0:OA)(p1 p2:Int):Tree:=cN 137 [pV p0,i64 p1] [.g [kI,kI,kI,.bool],.l kI] fun r1=>nw 72 (zc Zp 72) fun b2=>st (aB b2) [i64 r1.1.1,i64 r1.1.2.1,i64 r1.1.2.2.1,.bool r1.1.2.2.2.1]<|br ((r1.2.1:Int) != 0) (ret (.tuple #[i64 0,i64 r1.2.1])) (br (decide ((p2:Int)<0)) (ret (.tuple #[i64 0,i64 1])) (dI (fa (aB b2) 2) fun x3=>br (decide ((p2:Int)≥x3)) (ret (.tuple #[i64 0,i64 1])) (ret (.tuple #[i64 (IntKind.wrap .i64 ((IntKind.wrap .i64 (p1+1))+p2)),i64 0]))))
theorem F.object.bN.field.calls(p0:OA)(p1 p2:Int):Cf 199 [pV p0,i64 p1,i64 p2] (F.object.bN.field p0 p1 p2):=Tryz.cd az.z Tryz.func199
def F.ir.kO.Len(p0:OA):Tree:=br (Option.isNone p0) (ret (i64 0)) (nn p0 fun a1=>dS (fa (fa a1 0) 0) fun x2=>ret (i64 (x2.n:Nat)))
theorem F.ir.kO.Len.calls(p0:OA):Cf 202 [pV p0] (F.ir.kO.Len p0):=Tryz.cd az.z Tryz.func202
def F.bits.Bits.Has(p0:OA)(p1:Int):Tree:=cB 247 [pV p0,i64 p1] fun r1=>br r1 (nn p0 fun a2=>dS (fa a2 0) fun x3=>ix x3.a x3.n p1 1 fun a4=>dB a4 fun x5=>ret (.bool x5)) (ret (.bool false))
theorem F.bits.Bits.Has.calls(p0:OA)(p1:Int):Cf 203 [pV p0,i64 p1] (F.bits.Bits.Has p0 p1):=Tryz.cd az.z Tryz.func203
def F.fo.sJ.T:az:=⟨(fun|5=>[(16,kI)]|11=>[(8,.slice),(29,kI)]|_=>[]),fun _=>none,fun _=> .quiet⟩
def F.fo.sJ(p0:OA)(p1:av):Tree:=br (Option.isNone p0) (ret (.slice none 0 0)) (KH fun b1=>lp [kI] (fun X2 u3=>br (decide ((u3.1:Int)<(p1.n:Nat))) (ix p1.a p1.n u3.1 1 fun a4=>dI a4 fun x5=>kg Zp (Instr.mapUpdate 321 (.map (some b1)) (i64 x5) (.bool true))<|X2 (IntKind.wrap .i64 (u3.1+1),())) (nn p0 fun a4=>dP (fa a4 0) fun x5=>cS 136 [pV x5] fun r6=>lp [.slice,kI] (fun X7 u8=>br (decide ((u8.2.1:Int)<(r6.n:Nat))) (ix r6.a r6.n u8.2.1 1 fun a9=>dI a9 fun x10=>cM Zp (Instr.lookup 321 (.map (some b1)) (i64 x10) false) (.one (.l .bool)) fun(r11:Bool)=>br (!r11) (nw 3 [i64 x10] fun b12=>ap 43 (sV u8.1) (.slice (some ⟨b12,0,none⟩) 1 1) fun r13=>X7 (r13,IntKind.wrap .i64 (u8.2.1+1),())) (X7 (u8.1,IntKind.wrap .i64 (u8.2.1+1),()))) (ret (sV u8.1))) (⟨none,0,0⟩,0,()))) (0,()))
theorem F.fo.sJ.calls(p0:OA)(p1:av):Cf 217 [pV p0,sV p1] (F.fo.sJ p0 p1):=Tryz.cd F.fo.sJ.T Tryz.func217
def F.space.aV.yi(p0:OA)(p1:Int):Tree:=cN 142 [pV p0,i64 p1] [.l kI,.l kI,.l .bool] fun r1=>br (!r1.2.2.1) (ret (i64 2)) (br ((r1.1:Int) != p1) (ret (i64 2)) (dE ((64:Int)≠0)<|nn p0 fun a2=>ld (.l .map) (fa a2 2) fun(x3:Option Nat)=>cM Zp (Instr.lookup 256 (.map x3) (i64 (IntKind.wrap .i64 (Int.tdiv p1 64))) true) (.many [.l .ptr,.l .bool]) fun(r4:KTs _)=>br (!r4.2.1) (nn p0 fun a5=>ld (.l .map) (fa a5 3) fun(x6:Option Nat)=>cM Zp (Instr.lookup 257 (.map x6) (i64 (IntKind.wrap .i64 (Int.tdiv p1 64))) false) (.one (.l kI)) fun(r7:Int)=>nn p0 fun a8=>ld (.l .map) (fa a8 3) fun(x9:Option Nat)=>cM Zp (Builtin.delete_ #[257,3] 0 #[.map x9,i64 (IntKind.wrap .i64 (Int.tdiv p1 64))]) (.many []) fun(r10:KTs _)=>nn p0 fun a11=>dP (fa a11 1) fun x12=>cI 266 [pV x12,i64 (IntKind.wrap .i64 (Int.tdiv p1 64)),i64 r7] fun r13=>ret (i64 r13)) (dE ((64:Int)≠0)<|cI 195 [pV r4.1] fun r5=>dE ((r5:Int)≠0)<|cI 267 [pV r4.1,i64 (IntKind.wrap .i64 (Int.tdiv (Int.tmod p1 64) r5))] fun r6=>br ((r6:Int) != 0) (ret (i64 r6)) (cB 268 [pV r4.1] fun r7=>br (!r7) (ret (i64 r6)) (nn p0 fun a8=>ld (.l .map) (fa a8 2) fun(x9:Option Nat)=>cM Zp (Builtin.delete_ #[256,3] 0 #[.map x9,i64 (IntKind.wrap .i64 (Int.tdiv p1 64))]) (.many []) fun(r10:KTs _)=>nn p0 fun a11=>dP (fa a11 1) fun x12=>cI 266 [pV x12,i64 (IntKind.wrap .i64 (Int.tdiv p1 64)),i64 1] fun r13=>ret (i64 r13))))))
theorem F.space.aV.yi.calls(p0:OA)(p1:Int):Cf 218 [pV p0,i64 p1] (F.space.aV.yi p0 p1):=Tryz.cd az.z Tryz.func218
def F.ir.gB(p0:Int):Tree:=br (decide ((p0:Int)<1)) (ret (.tuple #[pV none,i64 1])) (br (decide ((p0:Int)>256)) (ret (.tuple #[pV none,i64 1])) (cM Zp (Instr.makeSlice 43 (i64 (IntKind.wrap .i64 (p0*64))) (i64 (IntKind.wrap .i64 (p0*64)))) (.one (.l .slice)) fun(r1:av)=>nw 307 [sV r1] fun b2=>ret (.tuple #[pV (some (aB b2)),i64 0])))
theorem F.ir.gB.calls(p0:Int):Cf 219 [i64 p0] (F.ir.gB p0):=Tryz.cd az.z Tryz.func219
def F.fN.gB(p0:Int):Tree:=br (decide ((p0:Int)<1)) (ret (.tuple #[pV none,i64 1])) (br (decide ((p0:Int)>256)) (ret (.tuple #[pV none,i64 1])) (cN 248 [i64 p0] [.l .ptr,.l kI] fun r1=>br ((r1.2.1:Int) != 0) (ret (.tuple #[pV none,i64 r1.2.1])) (nw 3 [i64 0] fun b2=>cI 269 [pV r1.1,.bool true,.slice (some ⟨b2,0,none⟩) 1 1] fun r3=>nw 324 [pV r1.1] fun b4=>ret (.tuple #[pV (some (aB b4)),i64 0]))))
theorem F.fN.gB.calls(p0:Int):Cf 220 [i64 p0] (F.fN.gB p0):=Tryz.cd az.z Tryz.func220
def F.class.Table.Add.T:az:=⟨fun _=>[],fun _=>none,(fun|7=> .held (some 8) (gF [0,1,2,3,4,5,6,7] (.go 8 true (gF [9,10,11] .nil)))|_=> .quiet)⟩
def F.class.Table.Add(p0:OA)(p1:LTs [kI,.slice]):Tree:=nw 109 [i64 p1.1,sV p1.2.1] fun b1=>br (Option.isNone p0) (ret (.tuple #[i64 0,i64 2])) (dG [kI,.slice] (aB b1) fun x2=>cB 270 [.agg #[i64 x2.1,sV x2.2.1]] fun r3=>br (!r3) (ret (.tuple #[i64 0,i64 1])) (nn p0 fun a4=>dS (fa a4 0) fun x5=>br (decide (((x5.n:Nat):Int)≥256)) (ret (.tuple #[i64 0,i64 3])) (cD<|Gl.held fun S6=>nn p0 fun a7=>eS S6 (fa a7 0) fun x8=>eG S6 [kI,.slice] (aB b1) fun x9=>cG 223 [.agg #[i64 x9.1,sV x9.2.1]] [kI,.slice] fun r10=>aZ S6<|nw 109 [i64 r10.1,sV r10.2.1] fun b11=>aZ S6<|ap 104 (sV x8) (.slice (some ⟨b11,0,none⟩) 1 1) fun r12=>nn p0 fun a13=>st (fa a13 0) [sV r12]<|nn p0 fun a14=>dS (fa a14 0) fun x15=>ret (.tuple #[i64 (x15.n:Nat),i64 0]))))
theorem F.class.Table.Add.calls(p0:OA)(p1:LTs [kI,.slice]):Cf 221 [pV p0,.agg #[i64 p1.1,sV p1.2.1]] (F.class.Table.Add p0 p1):=Tryz.cd F.class.Table.Add.T Tryz.func221
def F.class.Table.Classes(p0:OA):Tree:=br (Option.isNone p0) (ret (i64 0)) (nn p0 fun a1=>dS (fa a1 0) fun x2=>ret (i64 (x2.n:Nat)))
theorem F.class.Table.Classes.calls(p0:OA):Cf 222 [pV p0] (F.class.Table.Classes p0):=Tryz.cd az.z Tryz.func222
def F.class.own.T:az:=⟨fun _=>[],fun _=>none,(fun|1=> .held (some 6) (gF [0,1,2,3,4,5] (.go 6 true .nil))|_=> .quiet)⟩
def F.class.own(p0:LTs [kI,.slice]):Tree:=nw 109 [i64 p0.1,sV p0.2.1] fun b1=>nw 109 (zc Zp 109) fun b2=>cD<|Gl.held fun S3=>eI S3 (fa (aB b1) 0) fun x4=>eS S3 (fa (aB b1) 1) fun x5=>cS 140 [sV x5] fun r6=>aZ S3<|st (aB b2) [i64 x4,sV r6]<|dG [kI,.slice] (aB b2) fun x7=>ret (.agg #[i64 x7.1,sV x7.2.1])
theorem F.class.own.calls(p0:LTs [kI,.slice]):Cf 223 [.agg #[i64 p0.1,sV p0.2.1]] (F.class.own p0):=Tryz.cd F.class.own.T Tryz.func223
def F.object.bN.Make.T:az:=⟨fun _=>[],fun _=>none,(fun|6=> .held (some 7) (gF [0,1,2,3,4,5,6] (.go 7 true (gF [8,9,10,11,12] .nil)))|_=> .quiet)⟩
def F.object.bN.Make(p0:OA)(p1:LTs [kI,kI,kI,.bool]):Tree:=nw 72 [i64 p1.1,i64 p1.2.1,i64 p1.2.2.1,.bool p1.2.2.2.1] fun b1=>br (Option.isNone p0) (ret (.tuple #[i64 0,i64 2])) (dG [kI,kI,kI,.bool] (aB b1) fun x2=>cI 271 [pV p0,.agg #[i64 x2.1,i64 x2.2.1,i64 x2.2.2.1,.bool x2.2.2.2.1]] fun r3=>br ((r3:Int) != 0) (ret (.tuple #[i64 0,i64 r3])) (cD<|Gl.held fun S4=>nn p0 fun a5=>eP S4 (fa a5 0) fun x6=>eI S4 (fa (aB b1) 2) fun x7=>cN 272 [pV x6,i64 (IntKind.wrap .i64 (x7+1))] [.l kI,.l kI] fun r8=>br ((r8.2.1:Int) != 0) (ret (.tuple #[i64 0,i64 r8.2.1])) (dG [kI,kI,kI,.bool] (aB b1) fun x9=>cN 246 [.agg #[i64 x9.1,i64 x9.2.1,i64 x9.2.2.1,.bool x9.2.2.2.1]] [.l kI,.l .bool] fun r10=>nn p0 fun a11=>dP (fa a11 0) fun x12=>nn x12 fun a13=>dP (fa a13 0) fun x14=>cI 230 [pV x14,i64 r8.1,i64 r10.1] fun r15=>ret (.tuple #[i64 r8.1,i64 r15]))))
theorem F.object.bN.Make.calls(p0:OA)(p1:LTs [kI,kI,kI,.bool]):Cf 225 [pV p0,.agg #[i64 p1.1,i64 p1.2.1,i64 p1.2.2.1,.bool p1.2.2.2.1]] (F.object.bN.Make p0 p1):=Tryz.cd F.object.bN.Make.T Tryz.func225
def F.object.bN.Refs.T:az:=⟨fun _=>[],fun _=>none,(fun|6=> .held (some 6) (gF [0,1,2,3,4,5] (.two (.go 6 true (gF [7,8,9,10,11,12] .nil)) (gF [10] (.go 6 true (gF [7,8,9,11,12] .nil)))))|_=> .quiet)⟩
def F.object.bN.Refs(p0:OA)(p1:Int):Tree:=cN 137 [pV p0,i64 p1] [.g [kI,kI,kI,.bool],.l kI] fun r1=>nw 72 (zc Zp 72) fun b2=>st (aB b2) [i64 r1.1.1,i64 r1.1.2.1,i64 r1.1.2.2.1,.bool r1.1.2.2.2.1]<|br ((r1.2.1:Int) != 0) (ret (.slice none 0 0)) (dI (fa (aB b2) 0) fun x3=>br ((x3:Int)==1) (cD<|Gl.held fun S4=>nn p0 fun a5=>eP S4 (fa a5 1) fun x6=>eI S4 (fa (aB b2) 1) fun x7=>both (cN 159 [pV x6,i64 x7] [.g [kI,.slice],.l kI] fun r8=>nw 109 (zc Zp 109) fun b9=>st (aB b9) [i64 r8.1.1,sV r8.1.2.1]<|dS (fa (aB b9) 1) fun x10=>ret (sV x10)) (nw 109 (zc Zp 109) fun b11=>aZ S4<|cN 159 [pV x6,i64 x7] [.g [kI,.slice],.l kI] fun r12=>st (aB b11) [i64 r12.1.1,sV r12.1.2.1]<|dS (fa (aB b11) 1) fun x13=>ret (sV x13))) (br ((x3:Int)==2) (dI (fa (aB b2) 2) fun x4=>cS 273 [i64 x4] fun r5=>ret (sV r5)) (br ((x3:Int)==4) (nw 3 [i64 2] fun b4=>ret (.slice (some ⟨b4,0,none⟩) 1 1)) (ret (.slice none 0 0)))))
theorem F.object.bN.Refs.calls(p0:OA)(p1:Int):Cf 228 [pV p0,i64 p1] (F.object.bN.Refs p0 p1):=Tryz.cd F.object.bN.Refs.T Tryz.func228
def F.ir.kO.Fz(p0:OA)(p1 p2:Int):Tree:=br (Option.isNone p0) (ret (i64 2)) (nn p0 fun a1=>cB 245 [pV (some (fa a1 0)),i64 p1] fun r2=>br (!r2) (ret (i64 2)) (nn p0 fun a3=>dS (fa (fa a3 0) 0) fun x4=>ix x4.a x4.n p1 1 fun a5=>st a5 [i64 p2]<|ret (i64 0)))
theorem F.ir.kO.Fz.calls(p0:OA)(p1 p2:Int):Cf 230 [pV p0,i64 p1,i64 p2] (F.ir.kO.Fz p0 p1 p2):=Tryz.cd az.z Tryz.func230
def F.object.bN.qV(p0:OA)(p1:Int):Tree:=cN 137 [pV p0,i64 p1] [.g [kI,kI,kI,.bool],.l kI] fun r1=>nw 72 (zc Zp 72) fun b2=>st (aB b2) [i64 r1.1.1,i64 r1.1.2.1,i64 r1.1.2.2.1,.bool r1.1.2.2.2.1]<|br ((r1.2.1:Int) != 0) (ret (i64 r1.2.1)) (dI (fa (aB b2) 0) fun x3=>br ((x3:Int)==4) (ret (i64 5)) (dB (fa (aB b2) 3) fun x4=>br x4 (ret (i64 4)) (st (fa (aB b2) 3) [.bool true]<|dG [kI,kI,kI,.bool] (aB b2) fun x5=>cN 246 [.agg #[i64 x5.1,i64 x5.2.1,i64 x5.2.2.1,.bool x5.2.2.2.1]] [.l kI,.l .bool] fun r6=>nn p0 fun a7=>dP (fa a7 0) fun x8=>nn x8 fun a9=>dP (fa a9 0) fun x10=>cI 230 [pV x10,i64 p1,i64 r6.1] fun r11=>ret (i64 r11))))
theorem F.object.bN.qV.calls(p0:OA)(p1:Int):Cf 235 [pV p0,i64 p1] (F.object.bN.qV p0 p1):=Tryz.cd az.z Tryz.func235
def F.bits.Bits.Kf(p0:OA):Tree:=br (Option.isNone p0) (ret (i64 0)) (nn p0 fun a1=>dS (fa a1 0) fun x2=>ret (i64 (x2.n:Nat)))
theorem F.bits.Bits.Kf.calls(p0:OA):Cf 242 [pV p0] (F.bits.Bits.Kf p0):=Tryz.cd az.z Tryz.func242
def F.ir.words.has(p0:OA)(p1:Int):Tree:=br (decide ((p1:Int)≥0)) (nn p0 fun a1=>dS (fa a1 0) fun x2=>ret (.bool (decide ((p1:Int)<(x2.n:Nat))))) (ret (.bool false))
theorem F.ir.words.has.calls(p0:OA)(p1:Int):Cf 245 [pV p0,i64 p1] (F.ir.words.has p0 p1):=Tryz.cd az.z Tryz.func245
def F.head.Ge(p0:LTs [kI,kI,kI,.bool]):Tree:=nw 72 [i64 p0.1,i64 p0.2.1,i64 p0.2.2.1,.bool p0.2.2.2.1] fun b1=>dG [kI,kI,kI,.bool] (aB b1) fun x2=>cB 292 [.agg #[i64 x2.1,i64 x2.2.1,i64 x2.2.2.1,.bool x2.2.2.2.1]] fun r3=>br (!r3) (ret (.tuple #[i64 0,.bool false])) (dI (fa (aB b1) 0) fun x4=>dI (fa (aB b1) 1) fun x5=>dI (fa (aB b1) 2) fun x6=>dB (fa (aB b1) 3) fun x7=>br x7 (ret (.tuple #[i64 (IntKind.wrap .i64 ((IntKind.wrap .i64 ((IntKind.wrap .i64 (x4+(IntKind.wrap .i64 (16*x5))))+(IntKind.wrap .i64 (65536*x6))))+8)),.bool true])) (ret (.tuple #[i64 (IntKind.wrap .i64 ((IntKind.wrap .i64 (x4+(IntKind.wrap .i64 (16*x5))))+(IntKind.wrap .i64 (65536*x6)))),.bool true])))
theorem F.head.Ge.calls(p0:LTs [kI,kI,kI,.bool]):Cf 246 [.agg #[i64 p0.1,i64 p0.2.1,i64 p0.2.2.1,.bool p0.2.2.2.1]] (F.head.Ge p0):=Tryz.cd az.z Tryz.func246
def F.bits.Bits.place(p0:OA)(p1:Int):Tree:=br (decide ((p1:Int)≥0)) (cI 242 [pV p0] fun r1=>ret (.bool (decide ((p1:Int)<r1)))) (ret (.bool false))
theorem F.bits.Bits.place.calls(p0:OA)(p1:Int):Cf 247 [pV p0,i64 p1] (F.bits.Bits.place p0 p1):=Tryz.cd az.z Tryz.func247
def F.bits.gB(p0:Int):Tree:=br (decide ((p0:Int)<0)) (ret (.tuple #[pV none,i64 1])) (br (decide ((p0:Int)>16384)) (ret (.tuple #[pV none,i64 1])) (cM Zp (Instr.makeSlice 188 (i64 p0) (i64 p0)) (.one (.l .slice)) fun(r1:av)=>nw 300 [sV r1] fun b2=>ret (.tuple #[pV (some (aB b2)),i64 0])))
theorem F.bits.gB.calls(p0:Int):Cf 248 [i64 p0] (F.bits.gB p0):=Tryz.cd az.z Tryz.func248
def F.fN.lh.wR.T:az:=⟨fun _=>[],fun _=>none,(fun|10=> .held (some 7) (gF [0,1,2,3,4,5,6] (.go 7 true (gF [8] .nil)))|_=> .quiet)⟩
def F.fN.lh.wR(p0:OA)(p1 p2:Int):Tree:=br (Option.isNone p0) (ret (i64 2)) (br (decide ((p2:Int)<1)) (ret (i64 1)) (br (decide ((p1:Int)<1)) (ret (i64 1)) (nn p0 fun a1=>dP (fa a1 0) fun x2=>cI 242 [pV x2] fun r3=>br (decide ((p1:Int)>r3)) (ret (i64 2)) (nn p0 fun a4=>dP (fa a4 0) fun x5=>cI 242 [pV x5] fun r6=>br (decide ((p2:Int)>(IntKind.wrap .i64 (r6-p1)))) (ret (i64 2)) (nn p0 fun a7=>dP (fa a7 0) fun x8=>cI 194 [pV x8,i64 p1,.bool false] fun r9=>br (decide ((r9:Int)≥0)) (br (decide ((r9:Int)<(IntKind.wrap .i64 (p1+p2)))) (ret (i64 2)) (cD<|Gl.held fun S10=>nn p0 fun a11=>eP S10 (fa a11 0) fun x12=>cS 301 [i64 p1,i64 p2] fun r13=>aZ S10<|cI 269 [pV x12,.bool false,sV r13] fun r14=>ret (i64 r14))) (cD<|Gl.held fun S10=>nn p0 fun a11=>eP S10 (fa a11 0) fun x12=>cS 301 [i64 p1,i64 p2] fun r13=>aZ S10<|cI 269 [pV x12,.bool false,sV r13] fun r14=>ret (i64 r14)))))))
theorem F.fN.lh.wR.calls(p0:OA)(p1 p2:Int):Cf 266 [pV p0,i64 p1,i64 p2] (F.fN.lh.wR p0 p1 p2):=Tryz.cd F.fN.lh.wR.T Tryz.func266
def F.block.me.wR(p0:OA)(p1:Int):Tree:=br (Option.isNone p0) (ret (i64 2)) (nn p0 fun a1=>dP (fa a1 0) fun x2=>cB 203 [pV x2,i64 p1] fun r3=>br (!r3) (ret (i64 2)) (nn p0 fun a4=>dP (fa a4 0) fun x5=>nw 3 [i64 p1] fun b6=>cI 269 [pV x5,.bool false,.slice (some ⟨b6,0,none⟩) 1 1] fun r7=>ret (i64 r7)))
theorem F.block.me.wR.calls(p0:OA)(p1:Int):Cf 267 [pV p0,i64 p1] (F.block.me.wR p0 p1):=Tryz.cd az.z Tryz.func267
def F.block.me.Empty(p0:OA):Tree:=br (!(Option.isNone p0)) (nn p0 fun a1=>dP (fa a1 0) fun x2=>cI 302 [pV x2] fun r3=>ret (.bool ((r3:Int)==0))) (ret (.bool false))
theorem F.block.me.Empty.calls(p0:OA):Cf 268 [pV p0] (F.block.me.Empty p0):=Tryz.cd az.z Tryz.func268
def F.bits.Bits.Set.T:az:=⟨(fun|4=>[(18,kI)]|_=>[]),fun _=>none,fun _=> .quiet⟩
def F.bits.Bits.Set(p0:OA)(p1:Bool)(p2:av):Tree:=nw 262 [pV p0] fun b1=>dP (aB b1) fun x2=>br (Option.isNone x2) (ret (i64 2)) (cB 303 [sV p2,.func (.func 304) #[] #[pV (some (aB b1))]] fun r3=>br r3 (ret (i64 2)) (lp [kI] (fun X4 u5=>br (decide ((u5.1:Int)<(p2.n:Nat))) (ix p2.a p2.n u5.1 1 fun a6=>dI a6 fun x7=>dP (aB b1) fun x8=>nn x8 fun a9=>dS (fa a9 0) fun x10=>ix x10.a x10.n x7 1 fun a11=>st a11 [.bool p1]<|X4 (IntKind.wrap .i64 (u5.1+1),())) (ret (i64 0))) (0,())))
theorem F.bits.Bits.Set.calls(p0:OA)(p1:Bool)(p2:av):Cf 269 [pV p0,.bool p1,sV p2] (F.bits.Bits.Set p0 p1 p2):=Tryz.cd F.bits.Bits.Set.T Tryz.func269
def F.class.may.T:az:=⟨(fun|5=>[(3,kI),(17,kI)]|_=>[]),fun _=>none,fun _=> .quiet⟩
def F.class.may(p0:LTs [kI,.slice]):Tree:=nw 109 [i64 p0.1,sV p0.2.1] fun b1=>dI (fa (aB b1) 0) fun x2=>br (decide ((x2:Int)<0)) (ret (.bool false)) (dI (fa (aB b1) 0) fun x3=>br (decide ((x3:Int)>1023)) (ret (.bool false)) (dS (fa (aB b1) 1) fun x4=>lp [kI,kI] (fun X5 u6=>br (decide ((u6.2.1:Int)<(x4.n:Nat))) (ix x4.a x4.n u6.2.1 1 fun a7=>dI a7 fun x8=>br (decide ((x8:Int)≤u6.1)) (ret (.bool false)) (dI (fa (aB b1) 0) fun x9=>br (decide ((x8:Int)≥x9)) (ret (.bool false)) (X5 (x8,IntKind.wrap .i64 (u6.2.1+1),())))) (ret (.bool true))) ((-1),0,())))
theorem F.class.may.calls(p0:LTs [kI,.slice]):Cf 270 [.agg #[i64 p0.1,sV p0.2.1]] (F.class.may p0):=Tryz.cd F.class.may.T Tryz.func270
def F.object.bN.may.T:az:=⟨fun _=>[],fun _=>none,(fun|5=> .held (some 6) (gF [0,1,2,3,4,5] (.two (.go 6 true (gF [7,8,9,10,11,12] .nil)) (gF [10] (.go 6 true (gF [7,8,9,11,12] .nil)))))|_=> .quiet)⟩
def F.object.bN.may(p0:OA)(p1:LTs [kI,kI,kI,.bool]):Tree:=nw 72 [i64 p1.1,i64 p1.2.1,i64 p1.2.2.1,.bool p1.2.2.2.1] fun b1=>dG [kI,kI,kI,.bool] (aB b1) fun x2=>cB 292 [.agg #[i64 x2.1,i64 x2.2.1,i64 x2.2.2.1,.bool x2.2.2.2.1]] fun r3=>br (!r3) (ret (i64 1)) (dB (fa (aB b1) 3) fun x4=>br x4 (ret (i64 1)) (dI (fa (aB b1) 0) fun x5=>br ((x5:Int) != 1) (ret (i64 0)) (cD<|Gl.held fun S6=>nn p0 fun a7=>eP S6 (fa a7 1) fun x8=>eI S6 (fa (aB b1) 1) fun x9=>both (cN 159 [pV x8,i64 x9] [.g [kI,.slice],.l kI] fun r10=>nw 109 (zc Zp 109) fun b11=>st (aB b11) [i64 r10.1.1,sV r10.1.2.1]<|br ((r10.2.1:Int) != 0) (ret (i64 2)) (dI (fa (aB b11) 0) fun x12=>dI (fa (aB b1) 2) fun x13=>br ((x12:Int) != x13) (ret (i64 1)) (ret (i64 0)))) (nw 109 (zc Zp 109) fun b14=>aZ S6<|cN 159 [pV x8,i64 x9] [.g [kI,.slice],.l kI] fun r15=>st (aB b14) [i64 r15.1.1,sV r15.1.2.1]<|br ((r15.2.1:Int) != 0) (ret (i64 2)) (dI (fa (aB b14) 0) fun x16=>dI (fa (aB b1) 2) fun x17=>br ((x16:Int) != x17) (ret (i64 1)) (ret (i64 0)))))))
theorem F.object.bN.may.calls(p0:OA)(p1:LTs [kI,kI,kI,.bool]):Cf 271 [pV p0,.agg #[i64 p1.1,i64 p1.2.1,i64 p1.2.2.1,.bool p1.2.2.2.1]] (F.object.bN.may p0 p1):=Tryz.cd F.object.bN.may.T Tryz.func271
def F.space.aV.Alloc(p0:OA)(p1:Int):Tree:=cI 305 [i64 p1] fun r1=>br (Option.isNone p0) (ret (.tuple #[i64 0,i64 2])) (br ((r1:Int)==0) (ret (.tuple #[i64 0,i64 1])) (cN 306 [pV p0,i64 p1] [.l kI,.l kI] fun r2=>br ((r2.2.1:Int) != 0) (ret (.tuple #[i64 0,i64 r2.2.1])) (nn p0 fun a3=>dP (fa a3 0) fun x4=>cI 307 [pV x4,i64 r2.1,i64 r1] fun r5=>ret (.tuple #[i64 r2.1,i64 r5]))))
theorem F.space.aV.Alloc.calls(p0:OA)(p1:Int):Cf 272 [pV p0,i64 p1] (F.space.aV.Alloc p0 p1):=Tryz.cd az.z Tryz.func272
def F.object.all.T:az:=⟨(fun|3=>[(3,.slice),(6,kI)]|_=>[]),fun _=>none,fun _=> .quiet⟩
def F.object.all(p0:Int):Tree:=lp [.slice,kI] (fun X1 u2=>br (decide ((u2.2.1:Int)<p0)) (nw 3 [i64 u2.2.1] fun b3=>ap 43 (sV u2.1) (.slice (some ⟨b3,0,none⟩) 1 1) fun r4=>X1 (r4,IntKind.wrap .i64 (u2.2.1+1),())) (ret (sV u2.1))) (⟨none,0,0⟩,0,())
theorem F.object.all.calls(p0:Int):Cf 273 [i64 p0] (F.object.all p0):=Tryz.cd F.object.all.T Tryz.func273
def F.head.Hp(p0:LTs [kI,kI,kI,.bool]):Tree:=nw 72 [i64 p0.1,i64 p0.2.1,i64 p0.2.2.1,.bool p0.2.2.2.1] fun b1=>dI (fa (aB b1) 2) fun x2=>nw 3 [i64 0,i64 1023] fun b3=>cB 314 [i64 x2,.slice (some ⟨b3,0,none⟩) 2 2] fun r4=>br (!r4) (ret (.bool false)) (dI (fa (aB b1) 0) fun x5=>br ((x5:Int)==1) (dI (fa (aB b1) 1) fun x6=>nw 3 [i64 1,i64 256] fun b7=>cB 314 [i64 x6,.slice (some ⟨b7,0,none⟩) 2 2] fun r8=>ret (.bool r8)) (br ((x5:Int)==2) (br ((x5:Int)==2) (dI (fa (aB b1) 1) fun x6=>nw 3 [i64 0,i64 0] fun b7=>cB 314 [i64 x6,.slice (some ⟨b7,0,none⟩) 2 2] fun r8=>ret (.bool r8)) (br ((x5:Int)==4) (dI (fa (aB b1) 1) fun x6=>nw 3 [i64 1,i64 3] fun b7=>cB 314 [i64 x6,.slice (some ⟨b7,0,none⟩) 2 2] fun r8=>br r8 (dI (fa (aB b1) 2) fun x9=>br ((x9:Int)==5) (dB (fa (aB b1) 3) fun x10=>ret (.bool (!x10))) (ret (.bool false))) (ret (.bool false))) (ret (.bool false)))) (br ((x5:Int)==3) (dI (fa (aB b1) 1) fun x6=>nw 3 [i64 0,i64 0] fun b7=>cB 314 [i64 x6,.slice (some ⟨b7,0,none⟩) 2 2] fun r8=>ret (.bool r8)) (br ((x5:Int)==4) (dI (fa (aB b1) 1) fun x6=>nw 3 [i64 1,i64 3] fun b7=>cB 314 [i64 x6,.slice (some ⟨b7,0,none⟩) 2 2] fun r8=>br r8 (dI (fa (aB b1) 2) fun x9=>br ((x9:Int)==5) (dB (fa (aB b1) 3) fun x10=>ret (.bool (!x10))) (ret (.bool false))) (ret (.bool false))) (ret (.bool false))))))
theorem F.head.Hp.calls(p0:LTs [kI,kI,kI,.bool]):Cf 292 [.agg #[i64 p0.1,i64 p0.2.1,i64 p0.2.2.1,.bool p0.2.2.2.1]] (F.head.Hp p0):=Tryz.cd az.z Tryz.func292
def F.aL.kZ.T:az:=⟨(fun|2=>[(8,kI)]|_=>[]),fun _=>none,fun _=> .quiet⟩
def F.aL.kZ(p0:av)(p1:Value):Tree:=lp [kI] (fun X1 u2=>br (decide ((u2.1:Int)<(p0.n:Nat))) (ix p0.a p0.n u2.1 1 fun a3=>dI a3 fun x4=>lu Zp p1 [i64 x4] (.one (.l .bool)) fun(r5:Bool)=>br r5 (ret (i64 u2.1)) (X1 (IntKind.wrap .i64 (u2.1+1),()))) (ret (i64 (-1)))) (0,())
theorem F.aL.kZ.calls(p0:av)(p1:Value):Cf 300 [sV p0,p1] (F.aL.kZ p0 p1):=Tryz.ce F.aL.kZ.T Tryz.func300 [.va (sV p0),.op p1]
def F.fN.row.T:az:=⟨(fun|3=>[(5,.slice),(8,kI)]|_=>[]),fun _=>none,fun _=> .quiet⟩
def F.fN.row(p0 p1:Int):Tree:=lp [.slice,kI] (fun X1 u2=>br (decide ((u2.2.1:Int)<p1)) (nw 3 [i64 (IntKind.wrap .i64 (p0+u2.2.1))] fun b3=>ap 43 (sV u2.1) (.slice (some ⟨b3,0,none⟩) 1 1) fun r4=>X1 (r4,IntKind.wrap .i64 (u2.2.1+1),())) (ret (sV u2.1))) (⟨none,0,0⟩,0,())
theorem F.fN.row.calls(p0 p1:Int):Cf 301 [i64 p0,i64 p1] (F.fN.row p0 p1):=Tryz.cd F.fN.row.T Tryz.func301
def F.bits.Bits.Count.T:az:=⟨(fun|3=>[(3,kI),(4,kI)]|_=>[]),fun _=>none,fun _=> .quiet⟩
def F.bits.Bits.Count(p0:OA):Tree:=cI 194 [pV p0,i64 0,.bool true] fun r1=>lp [kI,kI] (fun X2 u3=>br (decide ((u3.2.1:Int)≥0)) (cI 194 [pV p0,i64 (IntKind.wrap .i64 (u3.2.1+1)),.bool true] fun r4=>X2 (IntKind.wrap .i64 (u3.1+1),r4,())) (ret (i64 u3.1))) (0,r1,())
theorem F.bits.Bits.Count.calls(p0:OA):Cf 302 [pV p0] (F.bits.Bits.Count p0):=Tryz.cd F.bits.Bits.Count.T Tryz.func302
def F.aL.na(p0:av)(p1:Value):Tree:=cI 300 [sV p0,p1] fun r1=>ret (.bool (decide ((r1:Int)≥0)))
theorem F.aL.na.calls(p0:av)(p1:Value):Cf 303 [sV p0,p1] (F.aL.na p0 p1):=Tryz.ce az.z Tryz.func303 [.va (sV p0),.op p1]
def F.bits.Bits.Ek(p0:Int)(c0:OA):Tree:=nn c0 fun a1=>dP a1 fun x2=>cB 247 [pV x2,i64 p0] fun r3=>ret (.bool (!r3))
theorem F.bits.Bits.Ek.calls(p0:Int)(c0:OA):Cf 304 [i64 p0,pV c0] (F.bits.Bits.Ek p0 c0):=Tryz.cd az.z Tryz.func304
def F.size.Block(p0:Int):Tree:=cI 319 [i64 p0] fun r1=>br (decide ((r1:Int)≥0)) (cS 320 [] fun r2=>ix r2.a r2.n r1 1 fun a3=>dI a3 fun x4=>ret (i64 x4)) (cI 321 [i64 p0] fun r2=>ret (i64 (IntKind.wrap .i64 (r2*64))))
theorem F.size.Block.calls(p0:Int):Cf 305 [i64 p0] (F.size.Block p0):=Tryz.cd az.z Tryz.func305
def F.space.aV.place(p0:OA)(p1:Int):Tree:=cI 319 [i64 p1] fun r1=>br (decide ((r1:Int)<0)) (cI 321 [i64 p1] fun r2=>nn p0 fun a3=>dP (fa a3 1) fun x4=>cN 322 [pV x4,i64 r2] [.l kI,.l kI] fun r5=>br ((r5.2.1:Int) != 0) (ret (.tuple #[i64 0,i64 r5.2.1])) (nn p0 fun a6=>ld (.l .map) (fa a6 3) fun(x7:Option Nat)=>kg Zp (Instr.mapUpdate 257 (.map x7) (i64 r5.1) (i64 r2))<|ret (.tuple #[i64 (IntKind.wrap .i64 (r5.1*64)),i64 0]))) (cN 323 [pV p0,i64 r1] [.l kI,.l kI] fun r2=>br ((r2.2.1:Int) != 0) (ret (.tuple #[i64 0,i64 r2.2.1])) (nn p0 fun a3=>ld (.l .map) (fa a3 2) fun(x4:Option Nat)=>cM Zp (Instr.lookup 256 (.map x4) (i64 r2.1) false) (.one (.l .ptr)) fun(r5:OA)=>cN 324 [pV r5] [.l kI,.l kI] fun r6=>br ((r6.2.1:Int) != 0) (ret (.tuple #[i64 0,i64 r6.2.1])) (nn p0 fun a7=>ld (.l .map) (fa a7 2) fun(x8:Option Nat)=>cM Zp (Instr.lookup 256 (.map x8) (i64 r2.1) false) (.one (.l .ptr)) fun(r9:OA)=>cI 195 [pV r9] fun r10=>ret (.tuple #[i64 (IntKind.wrap .i64 ((IntKind.wrap .i64 (r2.1*64))+(IntKind.wrap .i64 (r6.1*r10)))),i64 0]))))
theorem F.space.aV.place.calls(p0:OA)(p1:Int):Cf 306 [pV p0,i64 p1] (F.space.aV.place p0 p1):=Tryz.cd az.z Tryz.func306
def F.ir.kO.Ke(p0:OA)(p1 p2:Int):Tree:=br (Option.isNone p0) (ret (i64 2)) (br (decide ((p2:Int)<0)) (ret (i64 1)) (br (decide ((p1:Int)<0)) (ret (i64 2)) (nn p0 fun a1=>dS (fa (fa a1 0) 0) fun x2=>br (decide ((p2:Int)>(if(IntKind.wrap .i64 ((x2.n:Nat)-p1):Int)>0 then(IntKind.wrap .i64 ((x2.n:Nat)-p1):Int)else 0))) (ret (i64 2)) (br (decide ((p2:Int)>0)) (nn p0 fun a3=>dS (fa (fa a3 0) 0) fun x4=>sG x4.a x4.c p1 (IntKind.wrap .i64 (p1+p2)) 1 fun s5=>cM Zp (Builtin.clear_ #[43] 0 #[sV s5]) (.many []) fun(r6:KTs _)=>ret (i64 0)) (ret (i64 0))))))
theorem F.ir.kO.Ke.calls(p0:OA)(p1 p2:Int):Cf 307 [pV p0,i64 p1,i64 p2] (F.ir.kO.Ke p0 p1 p2):=Tryz.cd az.z Tryz.func307
def F.head.in.T:az:=⟨(fun|2=>[(5,kI)]|_=>[]),fun _=>none,fun _=> .quiet⟩
def F.head.in(p0:Int)(p1:av):Tree:=lp [kI] (fun X1 u2=>br (decide ((IntKind.wrap .i64 (u2.1+1):Int)<(p1.n:Nat))) (ix p1.a p1.n u2.1 1 fun a3=>dI a3 fun x4=>br (decide ((p0:Int)≥x4)) (ix p1.a p1.n (IntKind.wrap .i64 (u2.1+1)) 1 fun a5=>dI a5 fun x6=>br (decide ((p0:Int)≤x6)) (ret (.bool true)) (X1 (IntKind.wrap .i64 (u2.1+2),()))) (X1 (IntKind.wrap .i64 (u2.1+2),()))) (ret (.bool false))) (0,())
theorem F.head.in.calls(p0:Int)(p1:av):Cf 314 [i64 p0,sV p1] (F.head.in p0 p1):=Tryz.cd F.head.in.T Tryz.func314
def F.size.Class.T:az:=⟨(fun|4=>[(9,kI)]|_=>[]),fun _=>none,fun _=> .quiet⟩
def F.size.Class(p0:Int):Tree:=br (decide ((p0:Int)<1)) (ret (i64 (-1))) (cS 320 [] fun r1=>lp [kI] (fun X2 u3=>br (decide ((u3.1:Int)<(r1.n:Nat))) (ix r1.a r1.n u3.1 1 fun a4=>dI a4 fun x5=>br (decide ((x5:Int)≥p0)) (ret (i64 u3.1)) (X2 (IntKind.wrap .i64 (u3.1+1),()))) (ret (i64 (-1)))) (0,()))
theorem F.size.Class.calls(p0:Int):Cf 319 [i64 p0] (F.size.Class p0):=Tryz.cd F.size.Class.T Tryz.func319
def F.size.vn:Tree:=nw 3 [i64 2,i64 4,i64 8,i64 16,i64 32] fun b1=>ret (.slice (some ⟨b1,0,none⟩) 5 5)
theorem F.size.vn.calls:Cf 320 [] (F.size.vn):=Tryz.cd az.z Tryz.func320
def F.size.lh(p0:Int):Tree:=br (decide ((p0:Int)<1)) (ret (i64 0)) (br (decide ((p0:Int)>1024)) (ret (i64 0)) (cI 319 [i64 p0] fun r1=>br (decide ((r1:Int)≥0)) (ret (i64 0)) (dE ((64:Int)≠0)<|ret (i64 (IntKind.wrap .i64 (Int.tdiv (IntKind.wrap .i64 ((IntKind.wrap .i64 (p0+64))-1)) 64))))))
theorem F.size.lh.calls(p0:Int):Cf 321 [i64 p0] (F.size.lh p0):=Tryz.cd az.z Tryz.func321
def F.fN.lh.Take.T:az:=⟨fun _=>[],fun _=>none,(fun|8=> .held (some 7) (gF [0,1,2,3,4,5,6] (.go 7 true .nil))|_=> .quiet)⟩
def F.fN.lh.Take(p0:OA)(p1:Int):Tree:=br (Option.isNone p0) (ret (.tuple #[i64 0,i64 2])) (br (decide ((p1:Int)<1)) (ret (.tuple #[i64 0,i64 1])) (nn p0 fun a1=>dP (fa a1 0) fun x2=>cI 328 [pV x2,i64 0,i64 p1] fun r3=>br (decide ((r3:Int)<0)) (ret (.tuple #[i64 0,i64 3])) (cD<|Gl.held fun S4=>nn p0 fun a5=>eP S4 (fa a5 0) fun x6=>cS 301 [i64 r3,i64 p1] fun r7=>aZ S4<|cI 269 [pV x6,.bool true,sV r7] fun r8=>ret (.tuple #[i64 r3,i64 0]))))
theorem F.fN.lh.Take.calls(p0:OA)(p1:Int):Cf 322 [pV p0,i64 p1] (F.fN.lh.Take p0 p1):=Tryz.cd F.fN.lh.Take.T Tryz.func322
def F.space.aV.first(p0:OA)(p1:Int):Tree:=cN 329 [pV p0,i64 p1] [.l kI,.l .bool] fun r1=>br r1.2.1 (ret (.tuple #[i64 r1.1,i64 0])) (nn p0 fun a2=>dP (fa a2 1) fun x3=>cN 322 [pV x3,i64 1] [.l kI,.l kI] fun r4=>br ((r4.2.1:Int) != 0) (ret (.tuple #[i64 0,i64 r4.2.1])) (cN 330 [i64 p1] [.l .ptr,.l kI] fun r5=>br ((r5.2.1:Int) != 0) (ret (.tuple #[i64 0,i64 r5.2.1])) (nn p0 fun a6=>ld (.l .map) (fa a6 2) fun(x7:Option Nat)=>kg Zp (Instr.mapUpdate 256 (.map x7) (i64 r4.1) (pV r5.1))<|ret (.tuple #[i64 r4.1,i64 0]))))
theorem F.space.aV.first.calls(p0:OA)(p1:Int):Cf 323 [pV p0,i64 p1] (F.space.aV.first p0 p1):=Tryz.cd az.z Tryz.func323
def F.block.me.Take(p0:OA):Tree:=br (Option.isNone p0) (ret (.tuple #[i64 0,i64 2])) (nn p0 fun a1=>dP (fa a1 0) fun x2=>cI 194 [pV x2,i64 0,.bool false] fun r3=>br (decide ((r3:Int)<0)) (ret (.tuple #[i64 0,i64 3])) (nn p0 fun a4=>dP (fa a4 0) fun x5=>nw 3 [i64 r3] fun b6=>cI 269 [pV x5,.bool true,.slice (some ⟨b6,0,none⟩) 1 1] fun r7=>ret (.tuple #[i64 r3,i64 r7])))
theorem F.block.me.Take.calls(p0:OA):Cf 324 [pV p0] (F.block.me.Take p0):=Tryz.cd az.z Tryz.func324
def F.bits.Bits.Ea.T:az:=⟨(fun|5=>[(7,kI),(8,kI)]|_=>[]),fun _=>none,fun _=> .quiet⟩
def F.bits.Bits.Ea(p0:OA)(p1 p2:Int):Tree:=br (decide ((p2:Int)<1)) (ret (i64 (-1))) (lp [kI,kI] (fun X1 u2=>cI 242 [pV p0] fun r3=>br (decide ((u2.2.1:Int)<r3)) (nn p0 fun a4=>dS (fa a4 0) fun x5=>ix x5.a x5.n u2.2.1 1 fun a6=>dB a6 fun x7=>br x7 (br ((0:Int)==p2) (ret (i64 (IntKind.wrap .i64 ((IntKind.wrap .i64 (u2.2.1+1))-p2)))) (X1 (0,IntKind.wrap .i64 (u2.2.1+1),()))) (br ((IntKind.wrap .i64 (u2.1+1):Int)==p2) (ret (i64 (IntKind.wrap .i64 ((IntKind.wrap .i64 (u2.2.1+1))-p2)))) (X1 (IntKind.wrap .i64 (u2.1+1),IntKind.wrap .i64 (u2.2.1+1),())))) (ret (i64 (-1)))) (0,(if(p1:Int)>0 then(p1:Int)else 0),()))
theorem F.bits.Bits.Ea.calls(p0:OA)(p1 p2:Int):Cf 328 [pV p0,i64 p1,i64 p2] (F.bits.Bits.Ea p0 p1 p2):=Tryz.cd F.bits.Bits.Ea.T Tryz.func328
def F.space.aV.open.T:az:=⟨(fun|3=>[(21,kI)]|_=>[]),fun _=>none,fun _=> .quiet⟩
def F.space.aV.open(p0:OA)(p1:Int):Tree:=cS 320 [] fun r1=>ix r1.a r1.n p1 1 fun a2=>dI a2 fun x3=>nn p0 fun a4=>ld (.l .map) (fa a4 2) fun(x5:Option Nat)=>call Zp 333 [.map x5] (.one (.l .any)) fun(r6:Value)=>cS 332 [r6] fun r7=>lp [kI] (fun X8 u9=>br (decide ((u9.1:Int)<(r7.n:Nat))) (ix r7.a r7.n u9.1 1 fun a10=>dI a10 fun x11=>nn p0 fun a12=>ld (.l .map) (fa a12 2) fun(x13:Option Nat)=>cM Zp (Instr.lookup 256 (.map x13) (i64 x11) false) (.one (.l .ptr)) fun(r14:OA)=>cI 195 [pV r14] fun r15=>br ((r15:Int)==x3) (cB 334 [pV r14] fun r16=>br (!r16) (ret (.tuple #[i64 x11,.bool true])) (X8 (IntKind.wrap .i64 (u9.1+1),()))) (X8 (IntKind.wrap .i64 (u9.1+1),()))) (ret (.tuple #[i64 0,.bool false]))) (0,())
theorem F.space.aV.open.calls(p0:OA)(p1:Int):Cf 329 [pV p0,i64 p1] (F.space.aV.open p0 p1):=Tryz.cd F.space.aV.open.T Tryz.func329
def F.block.gB(p0:Int):Tree:=cS 320 [] fun r1=>br (decide ((p0:Int)<0)) (ret (.tuple #[pV none,i64 1])) (br (decide ((p0:Int)≥(r1.n:Nat))) (ret (.tuple #[pV none,i64 1])) (ix r1.a r1.n p0 1 fun a2=>dI a2 fun x3=>dE ((x3:Int)≠0)<|cN 248 [i64 (IntKind.wrap .i64 (Int.tdiv 64 x3))] [.l .ptr,.l kI] fun r4=>br ((r4.2.1:Int) != 0) (ret (.tuple #[pV none,i64 r4.2.1])) (ix r1.a r1.n p0 1 fun a5=>dI a5 fun x6=>nw 264 [pV r4.1,i64 x6] fun b7=>ret (.tuple #[pV (some (aB b7)),i64 0]))))
theorem F.block.gB.calls(p0:Int):Cf 330 [i64 p0] (F.block.gB p0):=Tryz.cd az.z Tryz.func330
def F.block.me.Full.T:az:=⟨fun _=>[],fun _=>none,(fun|1=> .held (some 12) (gF [0,1,2,3,4,5,6,8,9,10,11,7] (.go 12 true (gF [13,14,15] .nil)))|_=> .quiet)⟩
def F.block.me.Full(p0:OA):Tree:=cD<|Gl.held fun S1=>br (!(Option.isNone p0)) (nn p0 fun a2=>eP S1 (fa a2 0) fun x3=>nn p0 fun a4=>eP S1 (fa a4 0) fun x5=>cI 302 [pV x3] fun r6=>aZ S1<|cI 242 [pV x5] fun r7=>ret (.bool ((r6:Int)==r7))) (ret (.bool false))
theorem F.block.me.Full.calls(p0:OA):Cf 334 [pV p0] (F.block.me.Full p0):=Tryz.cd F.block.me.Full.T Tryz.func334
abbrev P2:RK:= .many [.l kI,.l kI]
abbrev R1:RK:= .one (.l kI)
abbrev RB:RK:= .one (.l .bool)
def cW(p:Nat)(ws:List Int):aD:=fun h=>∃s:av,s.n=ws.length∧star [au p [.slice s.a s.n s.c],aw s 1 (ws.map i64)] h
variable{ρ0 ρ:FR}{L L':List aD}{Post:Value→List aD→Prop}{T:Tree}
theorem cW.op{p:Nat}{ws:List Int}(t:Take L (cW p ws) L')(h:∀s:av,s.n=ws.length→Tr ρ0 ρ (au p [.slice s.a s.n s.c]::aw s 1 (ws.map i64)::L') T Post):Tr ρ0 ρ L T Post:=
 Tr.iW (M:=fun s:av=>[au p [.slice s.a s.n s.c],aw s 1 (ws.map i64)]) t (fun _ h=>h) h
theorem cW.cl{p:Nat}{ws:List Int}{s:av}(hs:s.n=ws.length)(h:HP)(H:star [au p [.slice s.a s.n s.c],aw s 1 (ws.map i64)] h):cW p ws h:=⟨s,hs,H⟩
theorem we(p:Nat)(ws:List Int)(i:Int):Gl.Spec ρ Zp 245 [pA p,i64 i] [cW p ws] RB
  fun r M=>r=decide (0≤i∧i<ws.length)∧M=[cW p ws]:=by
 refine So (F.ir.words.has.calls _ i) fun R=>ag (fun h=>?_) (fun h=>?_);·refine af<|cW.op tk fun s hs=>iL<|tC (cW.cl hs)<|ax ?_ ⟨rfl,rfl⟩ ar bE;simp[h,hs,RK.val,KD.val,LK.val]
 ·refine ax ?_ ⟨rfl,rfl⟩ ar bE;simp at h;simp[RK.val,KD.val,LK.val];omega
theorem rq(p:Nat)(ws:List Int):Gl.Spec ρ Zp 202 [pA p] [cW p ws] R1
  fun r M=>r=ws.length∧M=[cW p ws]:=by refine So (F.ir.kO.Len.calls _) fun R=>ak rfl (af ?_);refine cW.op tk fun s hs=>iL<|tC (cW.cl hs) ?_;rw[hs];exact rT
def Sp.load(ws:List Int)(i:Int):RT P2:=if 0≤i∧i<ws.length then(ws.getD i.toNat 0,0,())else(0,2,())
theorem getD_map{ws:List Int}{i:Nat}(h:i<ws.length):(ws.map i64)[i]? =some (i64 (ws.getD i 0)):=by grind
theorem BW(p:Nat)(ws:List Int)(i:Int):Gl.Spec ρ Zp 197 [pA p,i64 i] [cW p ws] P2
  fun r M=>r=Sp.load ws i∧M=[cW p ws]:=by
 refine So (F.ir.kO.Lh.calls _ i) fun R=>ak rfl (af ?_);refine cE (we p _ i)<|ag (fun h=>?_) (fun h=>?_);·refine ax ?_ ⟨rfl,rfl⟩ ar bE;simp only[Bool.not_eq_true',decide_eq_false_iff_not]at h;rw[Sp.load,if_neg h];rfl
 ·simp only[Bool.not_eq_false',decide_eq_true_eq]at h;refine af (cW.op tk fun s hs=>?_);refine iL<|bD tk h.1 (by rw[hs];exact h.2) fun a0 ha=>cw (j:=i.toNat) ha tk fX (getD_map ae)<|tC (cW.cl hs)<|ax ?_ ⟨rfl,rfl⟩ ar bE;rw[Sp.load,if_pos h];rfl
def Sp.vq(ws:List Int)(i:Int):Int:=if 0≤i∧i<ws.length then 0 else 2
def Sp.store(ws:List Int)(i x:Int):List Int:=if 0≤i∧i<ws.length then ws.set i.toNat x else ws
theorem zu(p:Nat)(ws:List Int)(i x:Int):Gl.Spec ρ Zp 230 [pA p,i64 i,i64 x] [cW p ws] R1
  fun r M=>r=Sp.vq ws i∧M=[cW p (Sp.store ws i x)]:=by
 refine So (F.ir.kO.Fz.calls _ i x) fun R=>ak rfl (af ?_);refine cE (we p _ i)<|ag (fun h=>?_) (fun h=>?_)
 ·simp only[Bool.not_eq_true',decide_eq_false_iff_not]at h;have e:Sp.store ws i x=ws:=by rw[Sp.store,if_neg h]
  rw[e];refine ax ?_ ⟨rfl,rfl⟩ ar bE;rw[Sp.vq,if_neg h];rfl
 ·simp only[Bool.not_eq_false',decide_eq_true_eq]at h;refine af (cW.op tk fun s hs=>?_);refine iL<|bD tk h.1 (by rw[hs];exact h.2) fun a0 ha=>iR (j:=i.toNat) ha tk fX fC rfl ?_;have hm:cH (ws.map i64) i.toNat [i64 x]=(ws.set i.toNat x).map i64:=by simp[cH]
  rw[hm];refine tC (cW.cl (ws:=ws.set _ x) (by simpa using hs)) ?_;have e:Sp.store ws i x=ws.set i.toNat x:=by rw[Sp.store,if_pos h]
  rw[e];refine ax ?_ ⟨rfl,rfl⟩ ar bE;rw[Sp.vq,if_pos h];rfl
end
section
open Go Go.Gl
abbrev bv(b:Bool):Value:= .bool b
def cq(p:Nat)(l:List Bool):aD:=fun h=>∃s:av,s.n=l.length∧star [au p [.slice s.a s.n s.c],aw s 1 (l.map bv)] h
variable{ρ0 ρ:FR}{L L':List aD}{Post:Value→List aD→Prop}{T:Tree}
theorem cq.op{p:Nat}{l:List Bool}(t:Take L (cq p l) L')(h:∀s:av,s.n=l.length→Tr ρ0 ρ (au p [.slice s.a s.n s.c]::aw s 1 (l.map bv)::L') T Post):Tr ρ0 ρ L T Post:=
 Tr.iW (M:=fun s:av=>[au p [.slice s.a s.n s.c],aw s 1 (l.map bv)]) t (fun _ h=>h) h
theorem cq.cl{p:Nat}{l:List Bool}{s:av}(hs:s.n=l.length)(h:HP)(H:star [au p [.slice s.a s.n s.c],aw s 1 (l.map bv)] h):cq p l h:=⟨s,hs,H⟩
theorem qi{l:List Bool}{i:Nat}(h:i<l.length):(l.map bv)[i]? =some (bv (l.getD i false)):=by grind
theorem kY(p:Nat)(l:List Bool):Gl.Spec ρ Zp 242 [pA p] [cq p l] R1 fun r M=>r=l.length∧M=[cq p l]:=by refine So (F.bits.Bits.Kf.calls _) fun R=>ak rfl (af ?_);refine cq.op tk fun s hs=>iL<|tC (cq.cl hs) ?_;rw[hs];exact rT
theorem uk(p:Nat)(l:List Bool)(i:Int):Gl.Spec ρ Zp 247 [pA p,i64 i] [cq p l] RB fun r M=>r=decide (0≤i∧i<l.length)∧M=[cq p l]:=by
 refine So (F.bits.Bits.place.calls _ i) fun R=>ag (fun h=>?_) (fun h=>?_);·refine cE (kY p l)<|ax ?_ ⟨rfl,rfl⟩ ar bE;simp[h,RK.val,KD.val,LK.val]
 ·refine ax ?_ ⟨rfl,rfl⟩ ar bE;simp at h;simp[RK.val,KD.val,LK.val];omega
def Sp.has(l:List Bool)(i:Int):Bool:=decide (0≤i)&&l.getD i.toNat false
theorem Sp.JC{l:List Bool}{i:Int}(h:¬(0≤i∧i<l.length)):Sp.has l i=false:=by unfold Sp.has;grind
theorem qY(p:Nat)(l:List Bool)(i:Int):Gl.Spec ρ Zp 203 [pA p,i64 i] [cq p l] RB fun r M=>r=Sp.has l i∧M=[cq p l]:=by
 refine So (F.bits.Bits.Has.calls _ i) fun R=>cE (uk p l i)<|ag (fun h=>?_) (fun h=>?_);·simp only[decide_eq_true_eq]at h;refine af (cq.op tk fun s hs=>?_);refine iL<|bD tk h.1 (by rw[hs];exact h.2) fun a0 ha=>cw (j:=i.toNat) ha tk fX (qi ae)<|tC (cq.cl hs)<|ax ?_ ⟨rfl,rfl⟩ ar bE;simp[Sp.has,h.1,RK.val,KD.val,LK.val]
 ·simp only[decide_eq_false_iff_not]at h;refine ax ?_ ⟨rfl,rfl⟩ ar bE;rw[Sp.JC h];rfl
def Sp.qJ(l:List Bool)(is:Bool):Nat→Nat→Int
 |0,_=> -1
 |n+1,i=>if i<l.length∧l.getD i false=is then i else Sp.qJ l is n (i+1)
def Sp.next(l:List Bool)(start:Int)(is:Bool):Int:=Sp.qJ l is (l.length-start.toNat) start.toNat
theorem jH(p:Nat)(l:List Bool)(start:Int)(is:Bool)(hl:l.length≤16384):Gl.Spec ρ Zp 194 [pA p,i64 start,.bool is] [cq p l] R1
  fun r M=>r=Sp.next l start is∧M=[cq p l]:=by
 refine So (F.bits.Bits.Next.calls _ _ _) fun R=>aM (fun n s M=>(fun i:Int=>M=cq p l::R∧0≤i∧n=l.length-i.toNat∧Sp.qJ l is n i.toNat=Sp.next l start is) s.1) (l.length-start.toNat) ?_ ?_
 ·have e:(if start>0 then start else 0).toNat=start.toNat:=by split<;>omega
  exact⟨rfl,eV,by rw[e],by rw[e];rfl⟩
 ·rintro n ⟨(i:Int),⟨⟩⟩ M ⟨rfl,h0,rfl,hn⟩ X hX;refine cE (kY p l)<|ag (fun h=>?_) (fun h=>?_)
  ·replace h:i<(l.length:Int):=oT h;obtain⟨k,hk⟩:∃k,l.length-i.toNat=k+1:=⟨l.length-i.toNat-1,ae⟩;rw[hk]at hn hX;unfold Sp.qJ at hn;refine af (cq.op tk fun s hs=>?_);refine iL<|bD tk h0 (by rw[hs];exact h) fun a0 ha=>cw (j:=i.toNat) ha tk fX (qi ae)<|tC (cq.cl hs)<|ag (fun h2=>?_) (fun h2=>?_);·rw[if_pos ⟨ae,by simpa using h2⟩]at hn;refine ax ?_ ⟨rfl,rfl⟩ ar bE;simp[RK.val,KD.val,LK.val];omega
   ·have hw:IntKind.wrap .i64 _=i+1:=bG;refine hX k _ _ ae ⟨rfl,bq,bq,?_⟩;grind
  ·replace h:¬i<(l.length:Int):=oF h;have hk:l.length-i.toNat=0:=by omega
   rw[hk]at hn;refine ax ?_ ⟨rfl,rfl⟩ ar bE;rw[←hn];rfl
end
end Go.Proofs.YtjginndmmlkjiaaGreat
namespace Go.Gl
open Go
variable{ρ0 ρ:FR}{L L':List aD}{Post:Value→List aD→Prop}
theorem ma{ρ':FR}(hle:Le ρ ρ'){M R:List aD}{T:Tree}(t:aI L M R)(h:Tr ρ0 ρ' L T Post):Tr ρ0 ρ' L (aZ (Sat ρ M) T) Post:=fun h0 w hw=>
 ⟨(((hw.perm t.perm).perm List.perm_append_comm).tS).HC hle,h h0 w hw⟩
theorem xR{xs vs:List Value}{j:Nat}(h:j+vs.length≤xs.length):cH xs j vs=xs.take j++(vs++xs.drop (j+vs.length)):=by
 have h1:=(List.take_append_drop j xs).symm;have h2:(xs.take j).length=j:=by simp;omega
 have:=vK (xs:=xs.take j) (rest:=xs.drop j) (ys:=vs) fC;rw[h2]at this;conv=>lhs;rw[h1]
 rw[this];simp
theorem tu(z:Value)(n:Nat):(Builtin.zeroCells #[z] n).toList=List.replicate n z:=by
 unfold Builtin.zeroCells;apply List.ext_getElem;·simp
 grind
theorem Ev{P:Program}{tt e ty:TypeId}{z zz:Value}{s:av}{xs:List Value}{l n c:Nat}{a':Option Addr}{k:RT (.many [])→Tree}(hu:P.underlying tt=some (.slice e))
  (hi:(P.info? e).bind (·.zero)=some zz) (hz:zz.cells= #[z]) (h1:nA z=true) (t:Take L (aw s 1 xs) L') (hn:0<n) (hl:l+n≤s.n) (ha:a'=s.a.map fun b=>fa b (l*1))
  (h:Tr ρ0 ρ (aw s 1 (cH xs l (List.replicate n z))::L') (k ()) Post):
  Tr ρ0 ρ L (cM P (Builtin.clear_ #[tt] ty #[.slice a' n c]) (.many []) k) Post:=by
 refine Tr.take t (lF (fun r M=>M=aw s 1 (cH xs l (List.replicate n z))::L') (fun w hw=>?_) (fun x M hM=>by subst hM;exact h));obtain⟨n,rfl⟩:∃k,n=k+1:=⟨n-1,ae⟩;rcases hw.sl with ⟨g1,g2,g3,g4,g5⟩|⟨b,off,pre,rest,g1,g2,g3,g4,g5,g6⟩;·omega
 have hst:=pF (P:=P) (vs:=List.replicate (n+1) z) (off:=off+l) g6 (by simp[h1]) fC;refine⟨(),D9 ⟨b,off+l,none⟩ 0 (List.replicate (n+1) z) w,_,?_,rfl,?_⟩;rotate_left
 ·have hs:=tb (List.replicate (n+1) z) (off+l) 0 _ w g6;have e2:cH (pre++(xs++rest)) (off+l+0) (List.replicate (n+1) z)=pre++(cH xs l (List.replicate (n+1) z)++rest):=by rw[Nat.add_zero,←g2];exact pW fC
  rw[e2]at hs;exact Sat.imp (fun h hh=> .inr ⟨b,off,pre,rest,g1,g2,by rw[kB];exact g3,g4,g5,hh⟩) hs
 ·rw[ha,g1];simp only[Option.map_some,aO,Nat.mul_one];unfold Builtin.clear_;have a0:(#[.slice (some ⟨b,off+l,none⟩) (n+1) c]:Array Value)[0]? =some (.slice _ _ c):=rfl;have t0:(#[tt]:Array TypeId)[0]? =some tt:=rfl;simp only[a0,t0,Sem.run_bind,run_underlying hu,Result.andThen_ok,jj hi,hz,tu,hst,Sem.run_pure];rfl
end Go.Gl
namespace Go.Proofs.YtjginndmmlkjiaaGreat
open Go Go.Gl
variable{ρ0 ρ:FR}{L L':List aD}{Post:Value→List aD→Prop}{T:Tree}
abbrev PE:RK:= .many [.l .ptr,.l kI]
theorem z6(n:Nat)(v:Value):(List.replicate n [v]).flatten=List.replicate n v:=by simp
theorem Dg(n:Int)(h0:1≤n)(h1:n≤256):Gl.Spec ρ Zp 219 [i64 n] [] PE
  fun r M=>∃b,r=(oA b,0,())∧M=[cW b (List.replicate (n.toNat*64) 0)]:=by
 refine So (F.ir.gB.calls n) fun R=>ak fC (ak fC ?_);rw[bG];refine mg (e:=3) (m:=1) (bytes:=8) (z:= .int .i64 0) (by kernel_rfl) (by kernel_rfl) rfl ae ae ae fun b=>aq fun b2=>?_;have e:(List.replicate (n*64).toNat (Value.cells (.int .i64 0)).toList).flatten=(List.replicate (n.toNat*64) (0:Int)).map i64:=by rw[show(Value.cells (.int .i64 0)).toList=[i64 0]from rfl,z6];rw[List.map_replicate,show(n*64).toNat=n.toNat*64 by omega]
 rw[e];exact Tr.close ar (cW.cl eV)<|rT ⟨b2,rfl,rfl⟩
theorem A8(n:Int)(h:¬(1≤n∧n≤256)):Gl.Spec ρ Zp 219 [i64 n] [] PE
  fun r M=>r=(none,1,())∧M=[]:=by
 refine So (F.ir.gB.calls n) fun R=>ag (fun _=>?_) (fun h1=>bg ?_ ?_);·exact rT
 ·simp at h1⊢;omega
 ·exact rT
def Sp.iu(ws:List Int)(i n:Nat):List Int:=ws.take i++(List.replicate n 0++ws.drop (i+n))
def Sp.E6(ws:List Int)(i n:Int):Prop:=0≤n∧0≤i∧n≤max 0 (ws.length-i)
instance (ws:List Int) (i n:Int):Decidable (Sp.E6 ws i n):=by unfold Sp.E6;infer_instance
theorem AA(p:Nat)(ws:List Int)(i n:Int)(hl:ws.length≤16384)(hn:0<n)(hi:0≤i)(hw:i+n≤ws.length):Gl.Spec ρ Zp 307 [pA p,i64 i,i64 n] [cW p ws] R1
  fun r M=>r=0∧M=[cW p (Sp.iu ws i.toNat n.toNat)]:=by
 refine So (F.ir.kO.Ke.calls _ i n) fun R=>ak rfl (ak fC (ak fC (af ?_)));refine cW.op tk fun s hs=>iL ?_;rw[bG];refine ak fC (bg fC (af ?_));refine iL ?_;rw[bG];refine Tr.fA tk fun hlen hc=>ei hi ae ae ?_;dsimp only[sV];apply Ev (e:=3) (zz:=i64 0) (l:=i.toNat) (by kernel_rfl) (by kernel_rfl) rfl rfl tk ae ae (by rw[if_neg ae]);have e:cH (ws.map i64) i.toNat (List.replicate ((i+n).toNat-i.toNat) (i64 0))=(Sp.iu ws i.toNat n.toNat).map i64:=by rw[xR fC,Sp.iu,show(i+n).toNat-i.toNat=n.toNat by omega];simp
 rw[e];refine tC (cW.cl (ws:=Sp.iu ws i.toNat n.toNat) (s:=s) (by simp[Sp.iu];omega)) ?_;exact rT
theorem vm(n:Int)(h0:0≤n)(h1:n≤16384):Gl.Spec ρ Zp 248 [i64 n] [] PE
  fun r M=>∃b,r=(oA b,0,())∧M=[cq b (List.replicate n.toNat false)]:=by
 refine So (F.bits.gB.calls n) fun R=>ak fC (ak fC ?_);refine mg (e:=4) (m:=1) (bytes:=1) (z:= .bool false) (by kernel_rfl) (by kernel_rfl) rfl ae ae ae fun b=>aq fun b2=>?_;have e:(List.replicate n.toNat (Value.cells (.bool false)).toList).flatten=(List.replicate n.toNat false).map bv:=by rw[show(Value.cells (.bool false)).toList=[bv false]from rfl,z6];simp
 rw[e];exact Tr.close ar (cq.cl bu)<|rT ⟨b2,rfl,rfl⟩
theorem Eg(s:av)(xs:List Int)(hs:fx ρ s 1 (xs.map i64))(hl:xs.length<2^62){f:FuncId}{fn:Func}{c:Array Value}{A:List aD}{g:Int→Bool}(hf:Tryz.prog.funcs[f]? =some fn)(hb:fn.body.isSome=true)
  (hg:∀x,Gl.Spec ρ Zp f ([i64 x]++c.toList) A RB fun r M=>r=g x∧M=A):
  Gl.Spec ρ Zp 300 [.slice s.a s.n s.c,.func (.func f) #[] c] A R1 fun r M=>decide (0≤r)=xs.any g∧M=A:=by
 refine So (F.aL.kZ.calls s _) fun R=>?_;have hn:s.n=xs.length:=by have:=hs.1;simpa using this.symm
 refine aM (fun n u M=>(fun i:Int=>M=A++R∧0≤i∧i≤xs.length∧n=xs.length-i.toNat∧xs.any g=(xs.drop i.toNat).any g) u.1) xs.length ?_ ?_;·simp
 ·rintro n ⟨(i:Int),⟨⟩⟩ M ⟨rfl,h0,h1,rfl,hn2⟩ X hX;refine ag (fun h=>?_) (fun h=>?_)
  ·replace h:i<(s.n:Int):=oT h;have hi:i.toNat<xs.length:=by omega
   refine bz hs h0 h fun a0 ha=>cu ha hs fX (getD_map hi)<|mK hf hb (hg _) (aI.app _ _) ?_;rintro r M ⟨rfl,rfl⟩;have hd:xs.drop i.toNat=xs.getD i.toNat 0::xs.drop (i.toNat+1):=by simp_all
   rw[hd,List.any_cons]at hn2;refine ag (fun h2=>?_) (fun h2=>?_);·refine ax rfl ⟨?_,rfl⟩ (aI.app _ _) .refl;rw[hn2,h2];simp[h0]
   ·rw[bG];refine hX _ _ _ ae ⟨rfl,bq,bq,rfl,?_⟩;grind
  ·replace h:¬i<(s.n:Int):=oF h;refine ax rfl ⟨?_,rfl⟩ (aI.app _ _) .refl;rw[hn2,List.drop_eq_nil_of_le ae];rfl
theorem vv(s:av)(xs:List Int)(hs:fx ρ s 1 (xs.map i64))(hl:xs.length<2^62){f:FuncId}{fn:Func}{c:Array Value}{A:List aD}{g:Int→Bool}(hf:Tryz.prog.funcs[f]? =some fn)(hb:fn.body.isSome=true)
  (hg:∀x,Gl.Spec ρ Zp f ([i64 x]++c.toList) A RB fun r M=>r=g x∧M=A):
  Gl.Spec ρ Zp 303 [.slice s.a s.n s.c,.func (.func f) #[] c] A RB fun r M=>r=xs.any g∧M=A:=by refine So (F.aL.na.calls s _) fun R=>ai (Eg s _ hs hl hf hb hg) (aI.app _ _) ?_;rintro r M ⟨hr,rfl⟩;refine ax ?_ ⟨rfl,rfl⟩ (aI.app _ _) .refl;rw[←hr];rfl
theorem CP(p b:Nat)(l:List Bool)(x:Int):Gl.Spec ρ Zp 304 ([i64 x]++[pA b]) [au b [pA p],cq p l] RB
  fun r M=>r= !decide (0≤x∧x<l.length)∧M=[au b [pA p],cq p l]:=by refine So (F.bits.Bits.Ek.calls x _) fun R=>af (lP _ _ p ?_);apply cE (uk p l x);exact rT
def Sp.kR(l:List Bool)(xs:List Int):Bool:=xs.all fun i=>decide (0≤i∧i<l.length)
def Sp.kf(l:List Bool)(is:Bool)(xs:List Int):List Bool:=xs.foldl (fun l i=>l.set i.toNat is) l
theorem Sp.nb{l:List Bool}{is:Bool}{xs:List Int}:(Sp.kf l is xs).length=l.length:=by
 unfold Sp.kf;induction xs generalizing l with
 |nil=>rfl
 |cons x xs ih=>grind
theorem mT(p:Nat)(l:List Bool)(is:Bool)(s:av)(xs:List Int)(hs:fx ρ s 1 (xs.map i64))(hl:xs.length<2^62):
  Gl.Spec ρ Zp 269 [pA p,.bool is,.slice s.a s.n s.c] [cq p l] R1
  fun r M=>r=(if Sp.kR l xs then 0 else 2)∧M=[cq p (if Sp.kR l xs then Sp.kf l is xs else l)]:=by
 refine So (F.bits.Bits.Set.calls _ _ s) fun R=>?_;have hn:s.n=xs.length:=by have:=hs.1;simpa using this.symm
 refine aq fun b=>lP _ _ p (ak rfl ?_);apply cE (vv s _ hs hl Tryz.func304 (by kernel_rfl) fun x=>CP p b l x);have hok:(xs.any fun x=> !decide (0≤x∧x<l.length))= !Sp.kR l xs:=by unfold Sp.kR;grind
 refine ag (fun h=>?_) (fun h=>?_)
 ·rw[hok]at h;have h':¬Sp.kR l xs=true:=by simpa using h
  rw[if_neg h',if_neg h'];exact rT
 ·rw[hok]at h;have h':Sp.kR l xs=true:=by simpa using h
  rw[if_pos h',if_pos h'];refine Tr.take (A:=cq p l) tk<|aM (fun n u M=>(fun i:Int=>M=cq p (Sp.kf l is (xs.take i.toNat))::au b [pA p]::R∧0≤i∧i≤xs.length∧n=xs.length-i.toNat) u.1) xs.length ?_ ?_;·exact⟨rfl,bu,bq,bq⟩
  ·rintro n ⟨(i:Int),⟨⟩⟩ M ⟨rfl,h0,h1,rfl⟩ X hX;refine ag (fun h=>?_) (fun h=>?_)
   ·replace h:i<(s.n:Int):=oT h;have hi:i.toNat<xs.length:=by omega
    refine bz hs h0 h fun a0 ha=>cu ha hs fX (getD_map hi)<|lP _ _ p (af ?_);have hx:0≤xs.getD i.toNat 0∧xs.getD i.toNat 0<l.length:=by simp_all
    refine cq.op tk fun s2 hs2=>?_;rw[Sp.nb]at hs2;refine iL<|bD tk hx.1 (by rw[hs2];exact hx.2) fun a1 ha1=>iR (j:=(xs.getD i.toNat 0).toNat) ha1 tk fX (by simp only[List.length_map,Sp.nb,List.length_singleton];omega) rfl ?_;have hm:cH ((Sp.kf l is (xs.take i.toNat)).map bv) (xs.getD i.toNat 0).toNat [bv is]=(Sp.kf l is (xs.take (i.toNat+1))).map bv:=by
     have:xs.take (i.toNat+1)=xs.take i.toNat++[xs.getD i.toNat 0]:=by simp_all
     rw[this];simp[cH,Sp.kf,List.foldl_append]
    rw[hm];refine tC (cq.cl (l:=Sp.kf l is (xs.take _)) (by rw[Sp.nb];exact hs2)) ?_;rw[bG];have e:(i+1).toNat=i.toNat+1:=by omega
    exact hX _ _ _ ae ⟨by rw[e],bq,bq,rfl⟩
   ·replace h:¬i<(s.n:Int):=oF h;rw[List.take_of_length_le ae];exact rT
theorem Sp.BK(l:List Bool)(is:Bool):∀n i,n=l.length-i→
  (Sp.qJ l is n i= -1∧∀j,i≤j→j<l.length→l.getD j false≠is)∨
  ∃k:Nat,Sp.qJ l is n i=k∧i≤k∧k<l.length∧l.getD k false=is∧∀j,i≤j→j<k→l.getD j false≠is:=by
 intro n;induction n with
 |zero=>intro i h;exact .inl ⟨rfl,fun j h1 h2=>by omega⟩
 |succ n ih=>intro i h;unfold Sp.qJ;grind
theorem Sp.jy(l:List Bool)(is:Bool)(i:Nat):
  (Sp.next l i is= -1∧∀j,i≤j→j<l.length→l.getD j false≠is)∨
  ∃k:Nat,Sp.next l i is=k∧i≤k∧k<l.length∧l.getD k false=is∧∀j,i≤j→j<k→l.getD j false≠is:=by have:=Sp.BK l is _ i rfl;simpa[Sp.next]using this
def Sp.fG(l:List Bool)(i k:Nat):Bool:=(List.range k).all fun j=> !l.getD (i+j) false
theorem Sp.jI{l:List Bool}{i k:Nat}:Sp.fG l i k=true↔∀j,i≤j→j<i+k→l.getD j false=false:=by
 unfold Sp.fG;rw[List.all_eq_true];constructor;·intro h j h1 h2;have:=h (j-i) fC;grind
 grind
def Sp.run(l:List Bool)(k:Nat):Option Nat:=(List.range (l.length+1-k)).find? fun i=>Sp.fG l i k
def Sp.oI:Option Nat→Int|some i=>i|none=> -1
theorem Sp.yC{l:List Bool}{k i:Nat}(h1:i+k≤l.length)(h2:Sp.fG l i k=true)(h3:∀j,j<i→Sp.fG l j k=false):Sp.run l k=some i:=by unfold Sp.run;rw[List.find?_range_eq_some];grind
theorem Sp.uz{l:List Bool}{k:Nat}(h3:∀j,j+k≤l.length→Sp.fG l j k=false):Sp.run l k=none:=by unfold Sp.run;grind
theorem Sp.Em{l:List Bool}{k i:Nat}(h:Sp.run l k=some i):i+k≤l.length∧Sp.fG l i k=true∧∀j,j<i→Sp.fG l j k=false:=by unfold Sp.run at h;rw[List.find?_range_eq_some]at h;grind
theorem GJ(p:Nat)(l:List Bool)(k:Nat)(hk:1≤k)(hk2:k<2^62)(hl:l.length≤16384):Gl.Spec ρ Zp 328 [pA p,i64 0,i64 k] [cq p l] R1
  fun r M=>r=Sp.oI (Sp.run l k)∧M=[cq p l]:=by
 refine So (F.bits.Bits.Ea.calls _ 0 k) fun R=>bF ?_;refine aM (fun n s M=>(fun f i:Int=>M=cq p l::R∧0≤f∧f≤i∧f<k∧i≤l.length∧n=l.length-i.toNat∧(∀j:Nat,i-f≤j→j<i→l.getD j false=false)∧
   (f<i→l.getD (i-f-1).toNat false=true)∧∀j:Nat,j+k≤i→Sp.fG l j k=false) s.1 s.2.1) l.length ?_ ?_;·grind
 ·rintro n ⟨(f:Int),(i:Int),⟨⟩⟩ M ⟨rfl,h0,h1,h2,h3,rfl,h4,h5,h6⟩ X hX;dsimp only at*;refine cE (kY p l)<|ag (fun h=>?_) (fun h=>?_)
  ·replace h:i<(l.length:Int):=oT h;refine af (cq.op tk fun s hs=>?_);refine iL<|bD tk ae (by rw[hs];exact h) fun a0 ha=>cw (j:=i.toNat) ha tk fX (qi ae)<|tC (cq.cl hs) ?_;have w1:IntKind.wrap .i64 _=i+1:=bG;have w2:IntKind.wrap .i64 _=f+1:=bG;rw[w1,w2];refine ag (fun hb=>?_) (fun hb=>?_)
   ·refine ak fC<|hX (l.length-(i+1).toNat) _ _ ae ⟨rfl,bq,bq,bq,bq,rfl,?_,?_,?_⟩;·omega
    ·grind
    ·intro j hj;dsimp only at*;rcases Int.lt_or_le i (j+k)with g|g
     ·cases hc:Sp.fG l j k with
      |false=>rfl
      |true=>have:=Sp.jI.mp hc i.toNat ae ae;grind
     ·exact h6 j g
   ·have hall:∀j:Nat,i-f≤j→j<i+1→l.getD j false=false:=fun j g1 g2=>by
     rcases Int.lt_or_le j i with g|g;·exact h4 j g1 g
     ·rw[show j=i.toNat by omega];exact hb
    refine ag (fun hf=>?_) (fun hf=>?_)
    ·replace hf:f+1=k:=by simpa using hf
     have hw:IntKind.wrap .i64 _=i+1-k:=bG;have hr:Sp.run l k=some (i+1-k).toNat:=by refine Sp.yC ae (Sp.jI.mpr fun j g1 g2=>hall j ae ae) fun j hj=>h6 j ae
     rw[hr];refine ax ?_ ⟨rfl,rfl⟩ ar bE;simp[Sp.oI,RK.val,KD.val,LK.val];omega
    ·replace hf:¬f+1=k:=by simpa using hf
     refine hX (l.length-(i+1).toNat) _ _ ae ⟨rfl,bq,bq,bq,bq,rfl,?_,?_,?_⟩;·grind
     ·grind
     ·intro j hj;dsimp only at*;rcases Int.lt_or_le i (j+k)with g|g
      ·cases hc:Sp.fG l j k with
       |false=>rfl
       |true=>have:=Sp.jI.mp hc (i-f-1).toNat ae ae;grind
      ·exact h6 j g
  ·replace h:¬i<(l.length:Int):=oF h;have hr:=Sp.uz fun j hj=>h6 j ae;rw[hr];exact rT
theorem aE{α:Type}{l:List α}{k:Nat}(d:α)(h:k<l.length):l.take (k+1)=l.take k++[l.getD k d]:=by simp_all
theorem AR{l:List Bool}{q k:Nat}(hq:q≤k)(hk:k<l.length)(h1:l.getD k false=true)(h2:∀j,q≤j→j<k→l.getD j false≠true):(l.take (k+1)).count true=(l.take q).count true+1:=by
 induction k with
 |zero=>
  have:q=0:=by omega
  subst this;cases l with
  |nil=>simp at hk
  |cons a l=>simp at h1;simp[h1]
 |succ k ih=>
  have e1:l.take (k+1+1)=l.take (k+1)++[true]:=by rw[aE false hk,h1]
  rcases Nat.lt_or_ge q (k+1)with g|g
  ·have key:∀d,q+d≤k+1→(l.take (q+d)).count true=(l.take q).count true:=by
    intro d;induction d with
    |zero=>intro _;rfl
    |succ d ih=>
     intro hd;have e1:l.take (q+d+1)=l.take (q+d)++[false]:=by
      have hl:q+d<l.length:=by omega
      rw[aE false hl,show l.getD (q+d) false=false by grind]
     grind
   have:=key (k+1-q) ae;grind
  grind
theorem Bf{l:List Bool}{q:Nat}(h2:∀j,q≤j→j<l.length→l.getD j false≠true):(l.take q).count true=l.count true:=by
 conv=>rhs;rw[←List.take_append_drop q l]
 rw[List.count_append];have:(l.drop q).count true=0:=by rw[List.count_eq_zero];intro hm;obtain⟨j,hj,e⟩:=List.getElem_of_mem hm;simp_all
 omega
theorem tw(p:Nat)(l:List Bool)(hl:l.length≤16384):Gl.Spec ρ Zp 302 [pA p] [cq p l] R1
  fun r M=>r=(l.count true:Nat)∧M=[cq p l]:=by
 refine So (F.bits.Bits.Count.calls _) fun R=>?_;try simp only[c8,c9]
 apply cE (jH p l 0 _ hl);have hcl:∀q,(l.take q).count true≤l.length:=fun q=>Nat.le_trans List.count_le_length fC;refine aM (fun n s M=>(fun c i:Int=>M=cq p l::R∧∃q:Nat,n=l.length-q∧i=Sp.next l q true∧c=((l.take q).count true:Nat)) s.1 s.2.1) l.length ?_ ?_;·grind
 ·rintro n ⟨(c:Int),(i:Int),⟨⟩⟩ M ⟨rfl,q,rfl,hi,hc⟩ X hX;dsimp only at*;refine ag (fun h=>?_) (fun h=>?_)
  ·replace h:i≥0:=oT h;rcases Sp.jy l true q with ⟨g1,g2⟩|⟨k,g1,g2,g3,g4,g5⟩;·omega
   ·rw[g1]at hi;subst hi;have w1:IntKind.wrap .i64 (k+1)=((k+1:Nat):Int):=by rw[bG];simp
    rw[w1];apply cE (jH p l _ _ hl);have:=hcl q;have w2:IntKind.wrap .i64 _=c+1:=bG;refine hX _ _ _ ae ⟨rfl,k+1,rfl,rfl,?_⟩;have e:=AR g2 g3 g4 g5;omega
  ·replace h:¬i≥0:=oF h;rcases Sp.jy l true q with ⟨g1,g2⟩|⟨k,g1,g2,g3,g4,g5⟩;·rw[Bf g2]at hc;rw[hc];exact rT
   ·omega
def eK(p:Nat)(l:List Bool):aD:=fun h=>∃b:Nat,star [au p [pA b],cq b l] h
theorem eK.op{p:Nat}{l:List Bool}(t:Take L (eK p l) L')(h:∀b:Nat,Tr ρ0 ρ (au p [pA b]::cq b l::L') T Post):Tr ρ0 ρ L T Post:=
 Tr.iW (M:=fun b:Nat=>[au p [pA b],cq b l]) (c:=fun _=>True) t (fun _ ⟨b,h⟩=>⟨b,trivial,h⟩) fun b _=>h b
theorem eK.cl{p b:Nat}{l:List Bool}(h:HP)(H:star [au p [pA b],cq b l] h):eK p l h:=⟨b,H⟩
def Sp.row(i k:Nat):List Int:=(List.range k).map fun j=>((i+j:Nat):Int)
def Sp.sK(l:List Bool)(is:Bool)(i k:Nat):List Bool:=Sp.kf l is (Sp.row i k)
theorem Sp.q8{l:List Bool}{is:Bool}{i k:Nat}:(Sp.sK l is i k).length=l.length:=Sp.nb
theorem Sp.CH{i k:Nat}:(Sp.row i k).length=k:=by simp[Sp.row]
theorem Sp.Bq{l:List Bool}{i k:Nat}(h:i+k≤l.length):Sp.kR l (Sp.row i k)=true:=by unfold Sp.kR Sp.row;grind
theorem Sp.A0{is:Bool}{xs:List Int}:∀{l:List Bool} {j:Nat},(∀x∈xs,0≤x)→j<l.length→(Sp.kf l is xs).getD j false=if(j:Int)∈xs then is else l.getD j false:=by
 unfold Sp.kf;induction xs with
 |nil=>intro l j _ _;simp
 |cons x xs ih=>intro l j hx hj;simp only[List.foldl_cons];rw[ih (fun y hy=>hx y (List.mem_cons_of_mem _ hy)) (by simpa using hj)];have h0:=hx x List.mem_cons_self;grind
theorem Sp.qI{l:List Bool}{is:Bool}{i k j:Nat}(hj:j<l.length):(Sp.sK l is i k).getD j false=if i≤j∧j<i+k then is else l.getD j false:=by
 unfold Sp.sK;rw[Sp.A0 (by intro x hx;simp[Sp.row]at hx;omega) hj];have:((j:Int)∈Sp.row i k)↔(i≤j∧j<i+k):=by
  simp only[Sp.row,List.mem_map,List.mem_range];constructor;·omega
  ·intro h;exact⟨j-i,ae,ae⟩
 simp[this]
theorem bJ:pY Zp #[43,43] 1 8=true:=by kernel_rfl
theorem wE(i k:Nat)(hi:i+k<2^40):Gl.Spec ρ Zp 301 [i64 i,i64 k] [] (.one (.l .slice))
  fun r M=>r.n=k∧M=[aw r 1 ((Sp.row i k).map i64)]:=by
 refine So (F.fN.row.calls i k) fun R=>Tr.cg 1<|aM (fun n s M=>(fun s (j:Int)=>M=aw s 1 ((Sp.row i j.toNat).map i64)::R∧0≤j∧j≤k∧s.n=j.toNat∧n=k-j.toNat) s.1 s.2.1) k ?_ ?_;·exact⟨rfl,bu,bq,rfl,bu⟩
 ·rintro n ⟨(s:av),(j:Int),⟨⟩⟩ M ⟨rfl,h0,h1,hn,rfl⟩ X hX;dsimp only at*;refine ag (fun h=>?_) (fun h=>?_)
  ·replace h:j<(k:Int):=oT h;refine aq fun b=>?_;rw[bG,bG];refine eu (x:=⟨oA b,1,1⟩) (ys:=[i64 (i+j)]) bJ tk (Rd.cl tk rfl rfl) rfl eV eV fun r hr=>?_;have e:(Sp.row i j.toNat).map i64++[i64 (i+j)]=(Sp.row i (j+1).toNat).map i64:=by rw[show(j+1).toNat=j.toNat+1 by omega,Sp.row,Sp.row,List.range_succ];simp;omega
   rw[e];exact tD (au b [i64 _])<|hX (k-(j+1).toNat) _ _ ae ⟨rfl,bq,bq,eV,rfl⟩
  ·replace h:¬j<(k:Int):=oF h;have:j.toNat=k:=by omega
   rw[this]at hn⊢;exact rT ⟨hn,rfl⟩
theorem Rd.one{b:Nat}{v:Value}(t:Take L (au b [v]) L')(h:∀ρ',Le ρ ρ'→fx ρ' ⟨oA b,1,1⟩ 1 [v]→Tr ρ0 ρ' L' T Post):Tr ρ0 ρ L T Post:=
 Tr.kT t fun ρ' ⟨ty,hr⟩ hle=>h ρ' hle ⟨rfl,.inr ⟨b,0,_,ty,_,rfl,hr,fun i hi=>by simp⟩⟩
theorem Dx(n:Int)(h0:1≤n)(h1:n≤256):Gl.Spec ρ Zp 220 [i64 n] [] PE
  fun r M=>∃b,r=(oA b,0,())∧M=[eK b (true::List.replicate (n.toNat-1) false)]:=by
 refine So (F.fN.gB.calls n) fun R=>ak fC (ak fC ?_);refine ai (vm n ae ae) ar ?_;rintro x M ⟨b,rfl,rfl⟩;refine bF<|aq fun b2=>Rd.one tk fun ρ' hle hro=>cE (mT b _ _ ⟨oA b2,1,1⟩ [0] hro bd) ?_;have ok:Sp.kR (List.replicate n.toNat false) [0]=true:=by simp[Sp.kR];omega
 rw[if_pos ok];have e:Sp.kf (List.replicate n.toNat false) true [0]=true::List.replicate (n.toNat-1) false:=by obtain⟨m,hm⟩:∃m,n.toNat=m+1:=⟨n.toNat-1,ae⟩;rw[hm];rfl
 rw[e];exact aq fun b4=>Tr.close ar (eK.cl)<|rT ⟨b4,rfl,rfl⟩
theorem uc(p:Nat)(l:List Bool)(k:Nat)(hk:1≤k)(hk2:k<2^30)(hl:l.length≤256):Gl.Spec ρ Zp 322 [pA p,i64 k] [eK p l] P2
  fun r M=>(Sp.run l k=none∧r=(0,3,())∧M=[eK p l])∨∃i,Sp.run l k=some i∧r=(((i:Nat):Int),0,())∧M=[eK p (Sp.sK l true i k)]:=by
 refine So (F.fN.lh.Take.calls _ k) fun R=>ak rfl (ak fC (af ?_));refine eK.op tk fun b=>iL<|cE (GJ b l k hk ae ae) ?_;cases hr:Sp.run l k with
 |none=>exact bT<|Tr.close ar (eK.cl)<|rT (.inl ⟨rfl,rfl,rfl⟩)
 |some i=>have hi:=Sp.Em hr;refine bF<|aA (aK [au p [pA b]] ar ?_);refine af (hP _ _ b ?_);apply ai (wE i k ae) ar;rintro s M ⟨hs,rfl⟩;refine cK<|Tr.cL tk fun ρ' hle hro=>cE (mT b l _ s _ hro (by rw[Sp.CH];omega)) ?_;rw[if_pos (Sp.Bq hi.1)];exact Tr.close (M:=[au p [pA b],cq b (Sp.sK l _ i k)]) ar (eK.cl)<|rT (.inr ⟨i,rfl,rfl,rfl⟩)
theorem uN(p:Nat)(l:List Bool)(i k:Nat)(hi:1≤i)(hk:1≤k)(hik:i+k≤l.length)(hl:l.length≤256)(hall:∀j,i≤j→j<i+k→l.getD j false=true):
  Gl.Spec ρ Zp 266 [pA p,i64 i,i64 k] [eK p l] R1 fun r M=>r=0∧M=[eK p (Sp.sK l false i k)]:=by
 refine So (F.fN.lh.wR.calls _ i k) fun R=>ak rfl (ak fC (ak fC (af ?_)));refine eK.op tk fun b=>iL<|cE (kY b l)<|ak fC (af ?_);refine iL<|cE (kY b l) ?_;rw[bG,bG];refine ak fC (af ?_);refine iL<|cE (jH b l i _ ae) ?_;have hn:Sp.next l i false= -1∨(i+k:Int)≤Sp.next l i false:=by
  rcases Sp.jy l false i with ⟨g1,g2⟩|⟨q,g1,g2,g3,g4,g5⟩;·exact .inl g1
  grind
 refine ag (fun h=>ak (by simp at h⊢;omega) ?_) (fun h=>?_);all_goals refine aA (aK [au p [pA b]] ar ?_);refine af (hP _ _ b ?_);apply ai (wE i k ae) ar;rintro s M ⟨hs,rfl⟩;refine cK<|Tr.cL tk fun ρ' hle hro=>cE (mT b l _ s _ hro (by rw[Sp.CH];omega)) ?_;rw[if_pos (Sp.Bq hik),if_pos (Sp.Bq hik)];exact Tr.close (M:=[au p [pA b],cq b (Sp.sK l _ i k)]) ar (eK.cl)<|rT
end Go.Proofs.YtjginndmmlkjiaaGreat
namespace Go.Gl
open Go
section
variable{α:Type}
def iy(k:Int):List (Int×α)→Option α
 |[]=>none|x::l=>if x.1=k then some x.2 else iy k l
def lf(k:Int)(a:α):List (Int×α)→List (Int×α)
 |[]=>[(k,a)]|x::l=>if x.1=k then(k,a)::l else x::lf k a l
def mj(k:Int):List (Int×α)→List (Int×α)
 |[]=>[]|x::l=>if x.1=k then l else x::mj k l
def pz(f:α→Value)(k:Int):List (Int×α)→Nat→Option (Nat×Value)
 |[],_=>none|x::l,i=>if x.1=k then some (i,f x.2)else pz f k l (i+1)
theorem mW(f:α→Value)(k:Int):∀(l:List (Int×α)) (i:Nat),
  (pz f k l i=none∧iy k l=none∧(∀a,lf k a l=l++[(k,a)])∧mj k l=l∧k∉l.map (·.1))∨
  ∃j a,pz f k l i=some (i+j,f a)∧iy k l=some a∧l[j]? =some (k,a)∧(∀a',lf k a' l=l.set j (k,a'))∧mj k l=l.eraseIdx j:=by
 intro l;induction l with
 |nil=>intro i;exact .inl ⟨rfl,rfl,fun _=>rfl,rfl,bu⟩
 |cons x l ih=>
  intro i;by_cases hx:x.1=k;·refine .inr ⟨0,x.2,by simp[pz,hx],by simp[iy,hx],by simp[←hx],fun a'=>by simp[lf,hx],by simp[mj,hx]⟩
  ·rcases ih (i+1)with ⟨h1,h2,h3,h4,h5⟩|⟨j,a,h1,h2,h3,h4,h5⟩;·refine .inl ⟨by simp[pz,hx,h1],by simp[iy,hx,h2],fun a=>by simp[lf,hx,h3],by simp[mj,hx,h4],?_⟩;grind
   ·exact .inr ⟨j+1,a,by simp[pz,hx,h1];omega,by simp[iy,hx,h2],by simpa using h3,fun a'=>by simp[lf,hx,h4],by simp[mj,hx,h5]⟩
structure Bz(f:α→Value)(es:List MapEntry)(clock:Nat)(l:List (Int×α)):Prop where
 kv:es.map (fun e=>(e.key,e.val))=l.map fun x=>(.int .i64 x.1,f x.2)
 rj:∀e∈es,e.born<clock
 Lo:(es.map (·.born)).Nodup
 keys:(l.map (·.1)).Nodup
def IM(b:Nat)(f:α→Value)(l:List (Int×α)):aD:=fun h=>∃es clock,Bz f es clock l∧mp b es.toArray clock h
theorem xH{f:α→Value}(k:Int):∀(es:List MapEntry) (l:List (Int×α)) (i:Nat),es.map (fun e=>(e.key,e.val))=l.map (fun x=>(.int .i64 x.1,f x.2))→
  Instr.findNow (.int .i64) (.int .i64 k) es i=some (pz f k l i):=by
 intro es;induction es with
 |nil=>intro l i h;cases l with
  |nil=>rfl
  |cons x l=>simp at h
 |cons e es ih=>intro l i h;cases l with
  |nil=>simp at h
  |cons x l=>
   simp only[List.map_cons,List.cons.injEq,Prod.mk.injEq]at h;obtain⟨⟨h1,h2⟩,h3⟩:=h;have hs:Instr.sameNow (.int .i64) (.int .i64 k) e.key=some (k==x.1):=by rw[h1];simp[Instr.sameNow]
   unfold Instr.findNow;rw[hs];by_cases hx:x.1=k
   ·have:(k==x.1)=true:=by simp[hx]
    simp[this,pz,hx,h2]
   ·have:(k==x.1)=false:=by grind
    simp[this,pz,hx,ih l (i+1) h3]
theorem o3{P:Program}{w:World}{kt:TypeId}(hd:P.underlying kt=some (.int .i64))(k:Int)(e:Bool):(Instr.checkKey e 10000 kt (.int .i64 k)).run P w= .ok () w:=by unfold Instr.checkKey;simp only[Sem.run_bind,Gl.run_underlying hd,Result.andThen];rfl
theorem qs{P:Program}{w:World}{kt:TypeId}{f:α→Value}{es:List MapEntry}{l:List (Int×α)}(hd:P.underlying kt=some (.int .i64))(k:Int)(h:es.map (fun e=>(e.key,e.val))=l.map (fun x=>(.int .i64 x.1,f x.2))):
  (Instr.findKey kt (.int .i64 k) es).run P w= .ok (pz f k l 0) w:=by unfold Instr.findKey;simp only[Sem.run_bind,Gl.run_underlying hd,Result.andThen,xH k es l 0 h,Sem.run_pure]
theorem jr{P:Program}{w:World}{r:Nat}{es:Array MapEntry}{c:Nat}(hb:w.heap[r]? =some (.map es c)):(getObj r).run P w= .ok (.map es c) w:=by simp[getObj,Sem.run,hb]
theorem ns{P:Program}{w:World}{r:Nat}{es:Array MapEntry}{c:Nat}{o':Obj}(hb:w.heap[r]? =some (.map es c)):(setObj r o').run P w= .ok () {w with heap:=w.heap.setIfInBounds r o'}:=by simp[setObj,Sem.run,hb]
theorem vI{P:Program}{w:World}{r:Nat}{m:Option Nat}{s:Nat}{seen:Array Nat}{c:Nat}(hb:w.heap[r]? =some (.mapIter m s seen c)):(getObj r).run P w= .ok (.mapIter m s seen c) w:=by simp[getObj,Sem.run,hb]
theorem Dt{P:Program}{w:World}{r:Nat}{m:Option Nat}{s:Nat}{seen:Array Nat}{c:Nat}{o':Obj}(hb:w.heap[r]? =some (.mapIter m s seen c)):(setObj r o').run P w= .ok () {w with heap:=w.heap.setIfInBounds r o'}:=by simp[setObj,Sem.run,hb]
theorem tf{w:World}{r:Nat}{o o':Obj}(hb:w.heap[r]? =some o)(c:Nat):({w with heap:=w.heap.setIfInBounds r o'}:World).heap[c]? =if c=r then some o' else w.heap[c]? :=by grind
variable{ρ0 ρ:FR}{L L':List aD}{Post:Value→List aD→Prop}
theorem Sat.im{b:Nat}{f:α→Value}{l:List (Int×α)}{w:World}(H:Sat ρ (IM b f l::L) w):∃es clock,Bz f es clock l∧Sat ρ (mp b es.toArray clock::L) w:=by obtain⟨⟨h,⟨h1,h2,hd,rfl,⟨es,clock,hc,ha⟩,hl⟩,hh⟩,h3⟩:=H;exact⟨es,clock,hc,⟨_,⟨h1,h2,hd,rfl,ha,hl⟩,hh⟩,h3⟩
theorem Sat.Jc{b:Nat}{f:α→Value}{l:List (Int×α)}{es:List MapEntry}{clock:Nat}{w:World}(he:Bz f es clock l)(H:Sat ρ (mp b es.toArray clock::L) w):Sat ρ (IM b f l::L) w:=
 Sat.imp (fun _ h=>⟨es,clock,he,h⟩) H
theorem sU{k:Nat→Tree}(f:α→Value)(h:∀b,Tr ρ0 ρ (IM b f []::L) (k b) Post):Tr ρ0 ρ L (KH k) Post:=
 Ku fun b=>Tr.imp .here (fun _ hh=>⟨[],0,⟨rfl,by simp,by simp,by simp⟩,hh⟩) (h b)
theorem qN{P:Program}{mt kt et:TypeId}{b:Nat}{f:α→Value}{l:List (Int×α)}{k:Int}{kd:LK}{g:α→LT kd}{z0:LT kd}{K:RT (.many [.l kd,.l .bool])→Tree}
  (hm:P.underlying mt=some (.map kt et)) (hk:P.underlying kt=some (.int .i64)) (hz:(P.info? et).bind (·.zero)=some (kd.val z0)) (hg:∀a,f a=kd.val (g a)) (t:Take L (IM b f l) L')
  (h:Tr ρ0 ρ L (K (match iy k l with |some a=>(g a,true,())|none=>(z0,false,()))) Post):
  Tr ρ0 ρ L (cM P (Instr.lookup mt (.map (some b)) (.int .i64 k) true) (.many [.l kd,.l .bool]) K) Post:=by
 refine lF (fun r M=>r=(match iy k l with |some a=>(g a,true,())|none=>(z0,false,()))∧M=L) (fun w hw=>?_) (by rintro x M ⟨rfl,rfl⟩;exact h);obtain⟨es,clock,he,hs⟩:=(hw.perm t.perm).im;have hb:=hs.pt;refine⟨_,w,L,?_,⟨rfl,rfl⟩,hw⟩;unfold Instr.lookup;simp only[Sem.run_bind,Gl.run_underlying hm,Result.andThen_ok,jr hb,o3 hk,qs hk k he.kv,Sem.run_pure];rcases mW f k l 0 with ⟨h1,h2,_⟩|⟨j,a,h1,h2,_⟩;·rw[h1,h2];simp only[Sem.run_bind,Gl.jj hz,Result.andThen_ok,Sem.run_pure];rfl
 ·rw[h1,h2];simp only[Sem.run_pure,Result.andThen_ok,if_true,hg];rfl
theorem qP{P:Program}{mt kt et:TypeId}{b:Nat}{f:α→Value}{l:List (Int×α)}{k:Int}{kd:LK}{g:α→LT kd}{z0:LT kd}{K:RT (.one (.l kd))→Tree}
  (hm:P.underlying mt=some (.map kt et)) (hk:P.underlying kt=some (.int .i64)) (hz:(P.info? et).bind (·.zero)=some (kd.val z0)) (hg:∀a,f a=kd.val (g a)) (t:Take L (IM b f l) L')
  (h:Tr ρ0 ρ L (K (match iy k l with |some a=>g a|none=>z0)) Post):
  Tr ρ0 ρ L (cM P (Instr.lookup mt (.map (some b)) (.int .i64 k) false) (.one (.l kd)) K) Post:=by
 refine lF (fun r M=>r=(match iy k l with |some a=>g a|none=>z0)∧M=L) (fun w hw=>?_) (by rintro x M ⟨rfl,rfl⟩;exact h);obtain⟨es,clock,he,hs⟩:=(hw.perm t.perm).im;have hb:=hs.pt;refine⟨_,w,L,?_,⟨rfl,rfl⟩,hw⟩;unfold Instr.lookup;simp only[Sem.run_bind,Gl.run_underlying hm,Result.andThen_ok,jr hb,o3 hk,qs hk k he.kv,Sem.run_pure];rcases mW f k l 0 with ⟨h1,h2,_⟩|⟨j,a,h1,h2,_⟩;·rw[h1,h2];simp only[Sem.run_bind,Gl.jj hz,Result.andThen_ok,Sem.run_pure];rfl
 ·rw[h1,h2];simp only[Sem.run_pure,Result.andThen_ok,hg];rfl
theorem Jo{P:Program}{s:Sem Unit}{k:Tree}{M:List aD}(hr:∀w,Sat ρ L w→∃w',s.run P w= .ok () w'∧Sat ρ M w')(h:Tr ρ0 ρ M k Post):Tr ρ0 ρ L (kg P s k) Post:=fun hle w hw=>by obtain⟨w',h1,h2⟩:=hr w hw;exact⟨w',h1,h hle _ h2⟩
theorem fy{β γ:Type}{g:β→γ}:∀{l:List β} {j:Nat},(l.map g).eraseIdx j=(l.eraseIdx j).map g
 |[],_=>rfl
 |_::_,0=>rfl
 |x::l,j+1=>by simp[fy (l:=l) (j:=j)]
theorem uY{f:α→Value}{es:List MapEntry}{l:List (Int×α)}{j:Nat}{k:Int}{a a':α}(h:es.map (fun e=>(e.key,e.val))=l.map (fun x=>(.int .i64 x.1,f x.2)))(hj:l[j]? =some (k,a)):
  (es.modify j fun e=>{e with key:= .int .i64 k,val:=f a'}).map (fun e=>(e.key,e.val))=(l.set j (k,a')).map (fun x=>(.int .i64 x.1,f x.2)):=by apply List.ext_getElem?;intro i;have hi:=congrArg (fun l=>l[i]?) h;grind
theorem ri{P:Program}{mt kt et:TypeId}{b:Nat}{f:α→Value}{l:List (Int×α)}{k:Int}{v:Value}{a:α}{K:Tree}
  (hm:P.underlying mt=some (.map kt et)) (hk:P.underlying kt=some (.int .i64)) (hv:v=f a) (t:Take L (IM b f l) L') (h:Tr ρ0 ρ (IM b f (lf k a l)::L') K Post):
  Tr ρ0 ρ L (kg P (Instr.mapUpdate mt (.map (some b)) (.int .i64 k) v) K) Post:=by
 subst hv;refine Tr.take t (Jo (fun w hw=>?_) h);obtain⟨es,clock,he,hs⟩:=hw.im;have hb:=hs.pt;unfold Instr.mapUpdate;simp only[Sem.run_bind,Gl.run_underlying hm,Result.andThen_ok,jr hb,o3 hk,qs hk k he.kv,Sem.run_pure];rcases mW f k l 0 with ⟨h1,h2,h3,h4,h5⟩|⟨j,a0,h1,h2,h3,h4,h5⟩
 ·rw[h1,h3 a];simp only[ns hb];have e2:es.toArray.push (⟨.int .i64 k,f a,clock⟩:MapEntry)=(es++[(⟨.int .i64 k,f a,clock⟩:MapEntry)]).toArray:=by simp
  rw[e2];refine⟨_,rfl,Sat.Jc ⟨?_,?_,?_,?_⟩ (Sat.set hs (fun c=>tf hb c))⟩;·simp[he.kv]
  ·intro e hm;rcases List.mem_append.mp hm with hm|hm;·have:=he.rj e hm;omega
   grind
  ·rw[List.map_append,List.nodup_append];refine⟨he.Lo,bu,?_⟩;intro x hx y hy;simp at hx hy;obtain⟨e,he1,rfl⟩:=hx;have:=he.rj e he1;omega
  ·rw[List.map_append,List.nodup_append];refine⟨he.keys,bu,?_⟩;grind
 ·rw[Nat.zero_add]at h1;have hke:es[j]?.map (·.key)=some (.int .i64 k):=by have:=congrArg (fun l=>l[j]?) he.kv;grind
  rw[h1,h4 a];have hks:∀w,(Instr.keyThatStays (((es.toArray)[j]?.map (·.key)).getD (.int .i64 k)) (.int .i64 k)).run P w= .ok (.int .i64 k) w:=by
   intro w;have:((es.toArray)[j]?.map (·.key)).getD (.int .i64 k)= .int .i64 k:=by simp[hke]
   rw[this];unfold Instr.keyThatStays;have:Instr.sameBits 10000 (.int .i64 k) (.int .i64 k)=true:=by simp[Instr.sameBits]
   rw[if_pos this];rfl
  have e2:es.toArray.modify j (fun e=>{e with key:= .int .i64 k,val:=f a})=(es.modify j fun e=>{e with key:= .int .i64 k,val:=f a}).toArray:=by apply Array.ext';simp
  simp only[Sem.run_bind,hks,Result.andThen_ok,ns hb];rw[e2];refine⟨_,rfl,Sat.Jc ⟨uY he.kv h3,?_,?_,?_⟩ (Sat.set hs (fun c=>tf hb c))⟩
  ·intro e hm;obtain⟨i,hi,rfl⟩:=List.getElem_of_mem hm;simp only[List.getElem_modify];simp only[List.length_modify]at hi;split;·exact he.rj es[i] (List.getElem_mem _)
   ·exact he.rj es[i] (List.getElem_mem _)
  ·have:(es.modify j fun e=>{e with key:= .int .i64 k,val:=f a}).map (·.born)=es.map (·.born):=by apply List.ext_getElem?;grind
   rw[this];exact he.Lo
  ·have:(l.set j (k,a)).map (·.1)=l.map (·.1):=by apply List.ext_getElem?;grind
   rw[this];exact he.keys
theorem EJ{P:Program}{ts:Array TypeId}{mt kt et ty:TypeId}{b:Nat}{f:α→Value}{l:List (Int×α)}{k:Int}{K:RT (.many [])→Tree}
  (ht:ts[0]? =some mt) (hm:P.underlying mt=some (.map kt et)) (hk:P.underlying kt=some (.int .i64)) (t:Take L (IM b f l) L') (h:Tr ρ0 ρ (IM b f (mj k l)::L') (K ()) Post):
  Tr ρ0 ρ L (cM P (Builtin.delete_ ts ty #[.map (some b),.int .i64 k]) (.many []) K) Post:=by
 refine Tr.take t (lF (fun r M=>M=IM b f (mj k l)::L') (fun w hw=>?_) (fun x M hM=>by subst hM;exact h));obtain⟨es,clock,he,hs⟩:=hw.im;have hb:=hs.pt;have a0:(#[.map (some b),.int .i64 k]:Array Value)[0]? =some (.map _):=rfl;have a1:(#[.map (some b),.int .i64 k]:Array Value)[1]? =some (.int .i64 k):=rfl;unfold Builtin.delete_;simp only[a0,a1,ht,Sem.run_bind,Gl.run_underlying hm,Result.andThen_ok,jr hb,o3 hk,qs hk k he.kv,Sem.run_pure];have fin:∀es',Bz f es' clock (mj k l)→∃x w' M,Result.ok (Value.tuple #[]) ({w with heap:=w.heap.setIfInBounds b (.map es'.toArray clock)}:World)= .ok ((RK.many []).val x) w'∧M=IM b f (mj k l)::L'∧Sat ρ M w':=fun es' he'=>
  ⟨(),_,_,rfl,rfl,Sat.Jc he' (Sat.set hs (fun c=>tf hb c))⟩;rcases mW f k l 0 with ⟨h1,h2,h3,h4,h5⟩|⟨j,a0,h1,h2,h3,h4,h5⟩;·rw[h1];simp only[Sem.run_bind,ns hb,Result.andThen_ok];simp_all
 ·rw[Nat.zero_add]at h1;rw[h1];have e2:es.toArray.eraseIdxIfInBounds j=(es.eraseIdx j).toArray:=by simp
  simp only[Sem.run_bind,ns hb,Result.andThen_ok];rw[e2];apply fin _;rw[h5];refine⟨?_,fun e hm=>he.rj e ((List.eraseIdx_sublist es j).mem hm),?_,?_⟩;·rw[←fy,←fy,he.kv]
  ·rw[←fy];exact he.Lo.sublist (List.eraseIdx_sublist _ _)
  ·rw[←fy];exact he.keys.sublist (List.eraseIdx_sublist _ _)
def MI(b r:Nat)(f:α→Value)(l rem:List (Int×α))(cur:Option (Int×α)):aD:=fun h=>∃es clock seen,(Bz f es clock l∧
  (∃res,res=es.filter (fun e=> !seen.contains e.born)∧res.map (fun e=>(e.key,e.val))=rem.map fun x=>(.int .i64 x.1,f x.2))∧
  (∀c,cur=some c→∃e,e∈es∧seen.back? =some e.born∧e.key= .int .i64 c.1∧e.val=f c.2))∧sep (pt r (.mapIter (some b) clock seen clock)) (mp b es.toArray clock) h
theorem Sat.mi{b r:Nat}{f:α→Value}{l rem:List (Int×α)}{cur:Option (Int×α)}{w:World}(H:Sat ρ (MI b r f l rem cur::L) w):∃es clock seen,(Bz f es clock l∧
  (∃res,res=es.filter (fun e=> !seen.contains e.born)∧res.map (fun e=>(e.key,e.val))=rem.map fun x=>(.int .i64 x.1,f x.2))∧
  (∀c,cur=some c→∃e,e∈es∧seen.back? =some e.born∧e.key= .int .i64 c.1∧e.val=f c.2))∧Sat ρ (Gl.pt r (.mapIter (some b) clock seen clock)::mp b es.toArray clock::L) w:=by obtain⟨⟨h,⟨h1,h2,hd,rfl,⟨es,clock,seen,hc,ha⟩,hl⟩,hh⟩,h3⟩:=H;exact⟨es,clock,seen,hc,⟨_,pQ ⟨h1,h2,hd,rfl,ha,hl⟩,hh⟩,h3⟩
theorem Sat.Kr{b r:Nat}{f:α→Value}{l rem:List (Int×α)}{cur:Option (Int×α)}{w:World}{es:List MapEntry}{clock:Nat}{seen:Array Nat} (hc:Bz f es clock l∧
  (∃res,res=es.filter (fun e=> !seen.contains e.born)∧res.map (fun e=>(e.key,e.val))=rem.map fun x=>(.int .i64 x.1,f x.2))∧
  (∀c,cur=some c→∃e,e∈es∧seen.back? =some e.born∧e.key= .int .i64 c.1∧e.val=f c.2)) (H:Sat ρ (Gl.pt r (.mapIter (some b) clock seen clock)::mp b es.toArray clock::L) w):Sat ρ (MI b r f l rem cur::L) w:=by obtain⟨⟨h,hl,hh⟩,h3⟩:=H;obtain⟨h1,h2,hd,rfl,ha,hl⟩:=oX hl;exact⟨⟨_,⟨h1,h2,hd,rfl,⟨es,clock,seen,hc,ha⟩,hl⟩,hh⟩,h3⟩
theorem MI.over{b r:Nat}{f:α→Value}{l rem:List (Int×α)}{cur:Option (Int×α)}{T:Tree}(t:Take L (MI b r f l rem cur) L')(h:Tr ρ0 ρ (IM b f l::L') T Post):Tr ρ0 ρ L T Post:=fun hle w hw=>by obtain⟨es,clock,seen,⟨he,_⟩,hs⟩:=(hw.perm t.perm).mi;exact h hle w (Sat.Jc he hs.drop)
theorem A6{P:Program}{mt kt et:TypeId}{b:Nat}{f:α→Value}{l:List (Int×α)}{K:RT (.one (.l .ptr))→Tree}
  (hm:P.underlying mt=some (.map kt et)) (t:Take L (IM b f l) L') (h:∀r,Tr ρ0 ρ (MI b r f l l none::L') (K (oA r)) Post):
  Tr ρ0 ρ L (cM P (Instr.range mt (.map (some b))) (.one (.l .ptr)) K) Post:=by
 refine Tr.take t (lF (fun x M=>∃r,x=oA r∧M=MI b r f l l none::L') (fun w hw=>?_) (by rintro x M ⟨r,rfl,rfl⟩;exact h r));obtain⟨es,clock,he,hs⟩:=hw.im;have hb:=hs.pt;refine⟨oA w.heap.size,w.alloc (.mapIter (some b) clock #[] clock),_,?_,⟨w.heap.size,rfl,rfl⟩,?_⟩;·unfold Instr.range;simp only[Sem.run_bind,Gl.run_underlying hm,Result.andThen_ok,jr hb,Sem.run_pure,run_newObj];rfl
 ·exact Sat.Kr ⟨he,⟨es,by rw[List.filter_eq_self.mpr];intro e _;simp,he.kv⟩,nofun⟩ (Sat.new hs)
theorem filter_one{es:List MapEntry}{seen:Array Nat}{i:Nat}{e:MapEntry}(hn:(es.map (·.born)).Nodup)(h:(es.filter (fun e=> !seen.contains e.born))[i]? =some e):
  es.filter (fun e'=> !(seen.push e.born).contains e'.born)=(es.filter (fun e=> !seen.contains e.born)).eraseIdx i:=by
 have h1:es.filter (fun e'=> !(seen.push e.born).contains e'.born)=(es.filter (fun e=> !seen.contains e.born)).filter (fun e'=> !(e'.born==e.born)):=by rw[List.filter_filter];grind
 rw[h1];have hn2:((es.filter (fun e=> !seen.contains e.born)).map _).Nodup:=hn.sublist (List.filter_sublist.map _);revert h hn2;generalize es.filter (fun e=> !seen.contains e.born)=l;induction l generalizing i with
 |nil=>intro h;simp at h
 |cons x l ih=>
  intro h hn2;cases i with
  |zero=>simp_all
  |succ i=>grind
theorem choose_lt{P:Program}{w:World}{n:Nat}(hn:0<n):∃i w',(choose (.mapNext n)).run P w= .ok i w'∧i<n∧w'.heap=w.heap∧Sm w w':=by
 rw[run_choose];split;·exact⟨0,w,rfl,hn,rfl,⟨rfl,rfl,rfl⟩⟩
 ·exact⟨_,_,rfl,Nat.mod_lt _ hn,rfl,⟨rfl,rfl,rfl⟩⟩
theorem Ak{P:Program}{ty:TypeId}{b r:Nat}{f:α→Value}{l rem:List (Int×α)}{cur:Option (Int×α)}{kv:LK}{g:α→LT kv}{k0:Tree}{k1:KT (.l kI)→KT (.l kv)→Tree}(hg:∀a,f a=kv.val (g a))(t:Take L (MI b r f l rem cur) L')
  (h0:rem=[]→Tr ρ0 ρ (MI b r f l [] none::L') k0 Post) (h1:∀k a r1 r2,rem=r1++(k,a)::r2→Tr ρ0 ρ (MI b r f l (r1++r2) (some (k,a))::L') (k1 k (g a)) Post):
  Tr ρ0 ρ L (vu P (Instr.next (pA r) false ty) (.l kI) (.l kv) k0 k1) Post:=fun hle w hw=>by
 obtain⟨es,clock,seen,⟨he,⟨res,hres,hkv⟩,hcur⟩,hs⟩:=(hw.perm t.perm).mi;have hr:=hs.pt;have hb:=(hs.perm (List.Perm.swap _ _ _)).pt;have c1:¬(((!seen.isEmpty&& !es.toArray.isEmpty)&&es.toArray.all fun x=>decide (x.born≥clock))=true):=by
  intro h;simp only[Bool.and_eq_true]at h;obtain⟨⟨_,h2⟩,h3⟩:=h;cases es with
  |nil=>simp at h2
  |cons e es=>have:=he.rj e List.mem_cons_self;simp at h3;omega
 have hl:(es.toArray.filter fun e=> !seen.contains e.born)=res.toArray:=by rw[hres];simp
 have hold:res.toArray.filter (fun e=>decide (e.born<clock))=res.toArray:=by rw[List.filter_toArray];congr 1;rw[List.filter_eq_self];intro e hm;rw[hres]at hm;have:=he.rj e (List.mem_filter.mp hm).1;simp[this]
 have hnew:res.toArray.filter (fun e=>decide (e.born≥clock))= #[]:=by rw[List.filter_toArray];congr 1;rw[List.filter_eq_nil_iff];grind
 have hrun:(Instr.next (pA r) false ty).run P w=(do
   match ((if res.toArray.isEmpty then #[none]else #[])++(res.toArray++ #[]).map some)[←choose (.mapNext ((if res.toArray.isEmpty then #[none]else #[])++(res.toArray++ #[]).map some).size)]? with
   |some (some e)=>
    setObj r (.mapIter (some b) clock (seen.push e.born) clock)
    pure (.tuple #[.bool true,e.key,e.val])
   |some none=>pure (.tuple #[.bool false])
   | none => stuck "Next: no such candidate" : Sem Value).run P w := by unfold Instr.next;simp only[Sem.run_bind,vI hr,Result.andThen_ok,jr hb,if_neg c1,hl,hold,hnew];rfl
 have hlen:rem.length=res.length:=by have:=congrArg List.length hkv;simpa using this.symm
 cases hres0:res with
 |nil=>
  rw[hres0]at hlen;have hrem:rem=[]:=by simpa using hlen
  refine .inl ⟨w,?_,h0 hrem hle w (Sat.Kr ⟨he,⟨res,hres,by rw[hres0];rfl⟩,nofun⟩ hs)⟩;rw[hrun,hres0];simp only[List.isEmpty_toArray,List.isEmpty_nil,if_true,Array.append_empty,Array.map_empty,List.map_toArray,List.map_nil,List.size_toArray,List.length_nil,Sem.run_bind,run_choose,Question.forced];rfl
 |cons e0 res0=>
  have hpos:0<res.length:=by rw[hres0];simp
  have hne:res.toArray.isEmpty=false:=by rw[hres0];rfl
  simp only[hne,Bool.false_eq_true,if_false,Array.append_empty,Array.empty_append]at hrun;obtain⟨i,w',hch,hi,hh,hsm⟩:=choose_lt (P:=P) (w:=w) (n:=(res.toArray.map some).size) (by simpa using hpos);have hi':i<res.length:=by simpa using hi
  have hri:i<rem.length:=by omega
  obtain⟨e,hei⟩:∃e,res[i]? =some e:=⟨res[i],by simp[hi']⟩;have hsp:rem=rem.take i++(rem[i].1,rem[i].2)::rem.drop (i+1):=by rw[←List.drop_eq_getElem_cons hri,List.take_append_drop]
  have hki:e.key= .int .i64 rem[i].1∧e.val=f rem[i].2:=by have:=congrArg (fun l=>l[i]?) hkv;grind
  have hmem:e∈es:=by have:=List.mem_of_getElem? hei;grind
  refine .inr ⟨rem[i].1,g rem[i].2,{w' with heap:=w'.heap.setIfInBounds r (.mapIter (some b) clock (seen.push e.born) clock)},?_,h1 _ _ _ _ hsp hle _ ?_⟩
  ·rw[hrun];have hr':w'.heap[r]? =some (.mapIter (some b) clock seen clock):=by rw[hh];exact hr
   have hget:(res.toArray.map some)[i]? =some (some e):=by simp[hei]
   simp only[Sem.run_bind,hch,Result.andThen_ok,hget,Dt hr',Sem.run_pure];rw[hki.1,hki.2,hg];rfl
  ·have hs':=Sat.heap hh hsm hs;have hr':w'.heap[r]? =some (.mapIter (some b) clock seen clock):=by rw[hh];exact hr
   refine Sat.Kr ⟨he,⟨res.eraseIdx i,?_,?_⟩,?_⟩ (Sat.set hs' (fun c=>tf hr' c));·rw[hres]at hei⊢;exact(filter_one he.Lo hei).symm
   ·rw[←fy,hkv,fy,List.eraseIdx_eq_take_drop_succ]
   grind
theorem yD{e:MapEntry}:∀{es:List MapEntry},(es.map (·.born)).Nodup→e∈es→es.find? (fun x=>x.born==e.born)=some e
 |[],_,h=>by cases h
 |x::es,hn,hm=>by
  simp only[List.map_cons,List.nodup_cons]at hn;by_cases hx:x.born=e.born;·grind
  ·rw[List.find?_cons_of_neg (by simpa using hx)];rcases List.mem_cons.mp hm with h|h;·grind
   ·exact yD hn.2 h
theorem Bo{P:Program}{b r:Nat}{f:α→Value}{l rem:List (Int×α)}{k:Int}{a:α}{kv:LK}{g:α→LT kv}{K:RT (.many [.l kI,.l kv])→Tree}(hg:∀a,f a=kv.val (g a))(t:Take L (MI b r f l rem (some (k,a))) L')
  (h:Tr ρ0 ρ L (K (k,g a,())) Post):Tr ρ0 ρ L (cM P (Instr.entry (pA r)) (.many [.l kI,.l kv]) K) Post:=by
 refine lF (fun x M=>x=(k,g a,())∧M=L) (fun w hw=>?_) (by rintro x M ⟨rfl,rfl⟩;exact h);obtain⟨es,clock,seen,⟨he,_,hcur⟩,hs⟩:=(hw.perm t.perm).mi;have hr:=hs.pt;have hb:=(hs.perm (List.Perm.swap _ _ _)).pt;obtain⟨e,hm,hback,hk,hv⟩:=hcur _ rfl;refine⟨_,w,L,?_,⟨rfl,rfl⟩,hw⟩;have hfind:es.toArray.find? (fun x=>x.born==e.born)=some e:=by rw[List.find?_toArray];exact yD he.Lo hm
 unfold Instr.entry;simp only[Sem.run_bind,vI hr,Result.andThen_ok,hback,jr hb,bne_self_eq_false,Bool.false_eq_true,if_false,hfind,Sem.run_pure];rw[hk,hv,hg];rfl
end
end Go.Gl
namespace Go.Proofs.YtjginndmmlkjiaaGreat
open Go Go.Gl
variable{ρ0 ρ:FR}{L L':List aD}{Post:Value→List aD→Prop}{T:Tree}
theorem hE{α:Type}{l:List α}{k:Nat}(d:α)(h:k<l.length):l.drop k=l.getD k d::l.drop (k+1):=by simp_all
theorem Rd.bk{b n m:Nat}{vs:List Value}(hl:vs.length=n*m)(t:Take L (au b vs) L')(h:∀ρ',Le ρ ρ'→fx ρ' ⟨oA b,n,n⟩ m vs→Tr ρ0 ρ' L' T Post):Tr ρ0 ρ L T Post:=
 Tr.kT t fun ρ' ⟨ty,hr⟩ hle=>h ρ' hle ⟨hl,.inr ⟨b,0,_,ty,_,rfl,hr,fun i hi=>by simp⟩⟩
def Sp.lU:List Int:=[2,4,8,16,32]
def Sp.BV(w:Int):List Int→Int→Int
 |[],_=> -1|x::l,i=>if x≥w then i else Sp.BV w l (i+1)
def Sp.cls(w:Int):Int:=if w<1 then -1 else Sp.BV w Sp.lU 0
theorem Sp.kX(w:Int):(w<1∧Sp.cls w= -1)∨(1≤w∧w≤2∧Sp.cls w=0)∨(3≤w∧w≤4∧Sp.cls w=1)∨(5≤w∧w≤8∧Sp.cls w=2)∨(9≤w∧w≤16∧Sp.cls w=3)∨(17≤w∧w≤32∧Sp.cls w=4)∨(33≤w∧Sp.cls w= -1):=by unfold Sp.cls Sp.lU;simp only[Sp.BV];omega
theorem nx:Gl.Spec ρ Zp 320 [] [] (.one (.l .slice)) fun r M=>r.n=5∧M=[aw r 1 (Sp.lU.map i64)]:=by exact So F.size.vn.calls fun R=>aq fun b=>Tr.imp (A':=aw ⟨oA b,5,5⟩ 1 (Sp.lU.map _)) .here (aw.nI rfl)<|rT
theorem pM(w:Int):Gl.Spec ρ Zp 319 [i64 w] [] R1 fun r M=>r=Sp.cls w∧M=[]:=by
 refine So (F.size.Class.calls w) fun R=>ag (fun h=>?_) (fun h=>?_);·replace h:w<1:=oT h;refine ax ?_ ⟨rfl,rfl⟩ ar bE;simp[Sp.cls,h,RK.val,KD.val,LK.val]
 ·replace h:¬w<1:=oF h;apply ai (nx) ar;rintro s M ⟨hs,rfl⟩;refine Tr.cL tk fun ρ' hle hro=>aM (fun n u M=>(fun i:Int=>M=R∧0≤i∧i≤5∧n=5-i.toNat∧Sp.cls w=Sp.BV w (Sp.lU.drop i.toNat) i) u.1) 5 ?_ ?_;·refine⟨rfl,bu,bu,bu,?_⟩;simp[Sp.cls,h]
  ·rintro n ⟨(i:Int),⟨⟩⟩ M ⟨rfl,h0,h1,rfl,hc⟩ X hX;refine ag (fun h2=>?_) (fun h2=>?_)
   ·replace h2:i<(s.n:Int):=oT h2;have hi:i.toNat<Sp.lU.length:=by show i.toNat<5;omega
    refine bz hro h0 h2 fun a0 ha=>cu ha hro fX (getD_map hi) ?_;rw[hE 0 hi]at hc;unfold Sp.BV at hc;refine ag (fun h3=>?_) (fun h3=>?_);·rw[if_pos (oT h3)]at hc;refine ax ?_ ⟨rfl,rfl⟩ ar bE;rw[hc];rfl
    ·rw[bG];refine hX _ _ _ (by omega) ⟨rfl,bq,ae,rfl,?_⟩;grind
   ·replace h2:¬i<(s.n:Int):=oF h2;have:i=5:=by omega
    subst this;refine ax ?_ ⟨rfl,rfl⟩ ar bE;rw[hc];rfl
def Sp.pj(w:Int):Int:=if w<1∨w>1024∨0≤Sp.cls w then 0 else(w+63)/64
theorem uK(w:Int):Gl.Spec ρ Zp 321 [i64 w] [] R1 fun r M=>r=Sp.pj w∧M=[]:=by
 refine So (F.size.lh.calls w) fun R=>ag (fun h=>?_) (fun h=>?_);·replace h:w<1:=oT h;refine ax ?_ ⟨rfl,rfl⟩ ar bE;simp[Sp.pj,h,RK.val,KD.val,LK.val]
 ·replace h:¬w<1:=oF h;refine ag (fun h2=>?_) (fun h2=>?_);·replace h2:w>1024:=oT h2;refine ax ?_ ⟨rfl,rfl⟩ ar bE;simp[Sp.pj,h2,RK.val,KD.val,LK.val]
  ·replace h2:¬w>1024:=oF h2;refine cE (pM w)<|ag (fun h3=>?_) (fun h3=>?_);·replace h3:Sp.cls w≥0:=oT h3;refine ax ?_ ⟨rfl,rfl⟩ ar bE;rw[Sp.pj,if_pos (.inr (.inr h3))];rfl
   ·replace h3:¬Sp.cls w≥0:=oF h3;apply bm bd;rw[wrap64 (n:=w+64) ae ae,wrap64 (n:=w+64-1) ae ae];rw[Int.tdiv_eq_ediv_of_nonneg ae,bG];refine ax ?_ ⟨rfl,rfl⟩ ar bE;rw[Sp.pj,if_neg ae];congr 1;omega
def Sp.au(w:Int):Int:=if 0≤Sp.cls w then Sp.lU.getD (Sp.cls w).toNat 0 else Sp.pj w*64
theorem Bj(w:Int):Gl.Spec ρ Zp 305 [i64 w] [] R1 fun r M=>r=Sp.au w∧M=[]:=by
 refine So (F.size.Block.calls w) fun R=>cE (pM w) ?_;have hcc:=Sp.kX w;refine ag (fun h=>?_) (fun h=>?_);·replace h:Sp.cls w≥0:=oT h;apply ai (nx) ar;rintro s M ⟨hs,rfl⟩;refine bD tk h (by omega) fun a0 ha=>cw (j:=(Sp.cls w).toNat) ha tk fX (getD_map (by show _<5;omega))<|ax ?_ ⟨rfl,rfl⟩ ar bE;rw[Sp.au,if_pos h];rfl
 ·replace h:¬Sp.cls w≥0:=oF h;apply cE (uK w);have hb:0≤Sp.pj w∧Sp.pj w≤16:=by unfold Sp.pj;split<;>omega
  rw[bG];refine ax ?_ ⟨rfl,rfl⟩ ar bE;rw[Sp.au,if_neg h];rfl
def dk(p:Nat)(l:List Bool)(w:Int):aD:=fun h=>∃b:Nat,star [au p [pA b,i64 w],cq b l] h
theorem dk.op{p:Nat}{l:List Bool}{w:Int}(t:Take L (dk p l w) L')(h:∀b:Nat,Tr ρ0 ρ (au p [pA b,i64 w]::cq b l::L') T Post):Tr ρ0 ρ L T Post:=
 Tr.iW (M:=fun b:Nat=>[au p [pA b,i64 w],cq b l]) (c:=fun _=>True) t (fun _ ⟨b,h⟩=>⟨b,trivial,h⟩) fun b _=>h b
theorem dk.cl{p b:Nat}{l:List Bool}{w:Int}(h:HP)(H:star [au p [pA b,i64 w],cq b l] h):dk p l w h:=⟨b,H⟩
def Sp.sz(c:Nat):Nat:=(Sp.lU.getD c 0).toNat
theorem Sp.eH{c:Nat}(h:c<5):(c=0∧Sp.sz c=2)∨(c=1∧Sp.sz c=4)∨(c=2∧Sp.sz c=8)∨(c=3∧Sp.sz c=16)∨(c=4∧Sp.sz c=32):=by
 match c,h with
 |0,_=>decide
 |1,_=>decide
 |2,_=>decide
 |3,_=>decide
 |4,_=>decide
theorem Sp.pG{c:Nat}(h:c<5):Sp.lU.getD c 0=(Sp.sz c:Int):=by
 match c,h with
 |0,_=>decide
 |1,_=>decide
 |2,_=>decide
 |3,_=>decide
 |4,_=>decide
theorem CX(c:Nat)(hc:c<5):Gl.Spec ρ Zp 330 [i64 c] [] PE
  fun r M=>∃b,r=(oA b,0,())∧M=[dk b (List.replicate (64/Sp.sz c) false) (Sp.sz c)]:=by
 refine So (F.block.gB.calls c) fun R=>?_;have hz:=Sp.eH hc;apply ai (nx) ar;rintro s M ⟨hs,rfl⟩;refine ak bu (ak (by simp[hs];omega) ?_);refine bD tk ae (by omega) fun a0 ha=>cw (j:=c) ha tk fX (getD_map (by show _<5;omega)) ?_;rw[Sp.pG hc];apply bm ae;have e:Int.tdiv 64 (Sp.sz c:Int)=((64/Sp.sz c:Nat):Int):=by rfl
 have e2:64/Sp.sz c≤32:=by grind
 rw[e];generalize 64/Sp.sz c=q at e2;rw[bG];refine ai (vm q ae ae) ar ?_;rintro x M ⟨b,rfl,rfl⟩;refine bF<|bD tk ae (by omega) fun a0 ha=>cw (j:=c) ha tk fX (getD_map (by show _<5;omega)) ?_;rw[Sp.pG hc];exact aq fun b2=>Tr.close ar (dk.cl)<|rT ⟨b2,rfl,rfl⟩
theorem iB(p:Nat)(l:List Bool)(w:Int):Gl.Spec ρ Zp 195 [pA p] [dk p l w] R1 fun r M=>r=w∧M=[dk p l w]:=by refine So (F.block.me.Words.calls _) fun R=>ak rfl (af (dk.op tk fun b=>?_));exact iL<|Tr.close ar (dk.cl)<|rT
theorem AW(p:Nat)(l:List Bool)(w:Int)(hl:l.length≤32):Gl.Spec ρ Zp 324 [pA p] [dk p l w] P2
  fun r M=>(Sp.next l 0 false= -1∧r=(0,3,())∧M=[dk p l w])∨∃i:Nat,Sp.next l 0 false=i∧i<l.length∧r=((i:Int),0,())∧M=[dk p (l.set i true) w]:=by
 refine So (F.block.me.Take.calls _) fun R=>ak rfl (af (dk.op tk fun b=>?_));refine iL<|cE (jH b l 0 _ ae) ?_;rcases Sp.jy l false 0 with ⟨g1,g2⟩|⟨i,g1,g2,g3,g4,g5⟩;·rw[Int.natCast_zero]at g1;rw[g1];exact bT<|Tr.close ar (dk.cl)<|rT (.inl ⟨rfl,rfl,rfl⟩)
 ·rw[Int.natCast_zero]at g1;rw[g1];refine ak bu (af ?_);refine iL<|aq fun b2=>Rd.one tk fun ρ' hle hro=>cE (mT b l _ ⟨oA b2,1,1⟩ [(i:Int)] hro bu) ?_;have ok:Sp.kR l [(i:Int)]=true:=by simp[Sp.kR,g3]
  rw[if_pos ok,if_pos ok];exact Tr.close ar (dk.cl)<|rT (.inr ⟨i,rfl,g3,rfl,rfl⟩)
theorem Am(p:Nat)(l:List Bool)(w:Int)(i:Nat)(hi:l.getD i false=true):Gl.Spec ρ Zp 267 [pA p,i64 i] [dk p l w] R1
  fun r M=>r=0∧M=[dk p (l.set i false) w]:=by
 have hl:i<l.length:=by grind
 refine So (F.block.me.wR.calls _ i) fun R=>ak rfl (af (dk.op tk fun b=>?_));refine iL<|cE (qY b l i)<|ak (by simp[Sp.has,List.getD_eq_getElem?_getD]at hi⊢;exact hi) (af ?_);refine iL<|aq fun b2=>Rd.one tk fun ρ' hle hro=>cE (mT b l _ ⟨oA b2,1,1⟩ [(i:Int)] hro bu) ?_;have ok:Sp.kR l [(i:Int)]=true:=by simp[Sp.kR,hl]
 rw[if_pos ok,if_pos ok];exact Tr.close ar (dk.cl)<|rT
theorem yZ(p:Nat)(l:List Bool)(w:Int)(hl:l.length≤32):Gl.Spec ρ Zp 268 [pA p] [dk p l w] RB
  fun r M=>r=decide (l.count true=0)∧M=[dk p l w]:=by refine So (F.block.me.Empty.calls _) fun R=>bg rfl (af (dk.op tk fun b=>?_));refine iL<|cE (tw b l ae) ?_;refine Tr.close ar (dk.cl)<|ax ?_ ⟨rfl,rfl⟩ ar bE;congr 1;grind
theorem A9(p:Nat)(l:List Bool)(w:Int)(hl:l.length≤32):Gl.Spec ρ Zp 334 [pA p] [dk p l w] RB
  fun r M=>r=decide (l.count true=l.length)∧M=[dk p l w]:=by refine So (F.block.me.Full.calls _) fun R=>dk.op tk fun b=>aA (aK [au p [pA b,i64 w],cq b l] ar ?_);refine bg rfl (af ?_);refine hP _ _ b (af ?_);refine jL<|cE (tw b l ae) ?_;refine cK<|cE (kY b l) ?_;refine Tr.close ar (dk.cl)<|ax ?_ ⟨rfl,rfl⟩ ar bE;congr 1;grind
end Go.Proofs.YtjginndmmlkjiaaGreat
namespace Go.Gl
open Go
variable{ρ0 ρ:FR}{L L':List aD}{Post:Value→List aD→Prop}
theorem CB{a:Addr}{b off:Nat}{cs rest:List Value}(ha:a=⟨b,off,none⟩)(t:Take L (au b cs) L'):∀(ks:List LK) (i:Nat) {f:LTs ks→Tree} {x:LTs ks} (_:cs.drop (off+i)=fq ks x++rest) (_:Tr ρ0 ρ L (f x) Post),Tr ρ0 ρ L (JL a i ks f) Post
 |[],_,_,_,_,h=>h
 |k::ks,i,f,x,hv,h=>by
  simp only[fq,List.cons_append]at hv;have h0:cs[off+i]? =some (k.val x.1):=by have:=congrArg (fun l=>l[0]?) hv;simpa using this
  apply aT (by rw[ha,aO]) t h0;have h1:cs.drop (off+(i+1))=fq ks x.2++rest:=by have:=congrArg (fun l=>l.drop 1) hv;simpa[List.drop_drop,Nat.add_assoc,Nat.add_comm 1]using this
  exact CB ha t _ _ h1 h
theorem aN{ks:List LK}{a:Addr}{f:LTs ks→Tree}{b off:Nat}{cs:List Value}{x:LTs ks}(rest:List Value)(ha:a=⟨b,off,none⟩)(t:Take L (au b cs) L')(hv:cs.drop off=fq ks x++rest)(h:Tr ρ0 ρ L (f x) Post):Tr ρ0 ρ L (ld (.g ks) a f) Post:=
 CB ha t ks 0 (rest:=rest) (by simpa using hv) h
theorem zP{M:List aD}{a:Addr}{b off:Nat}{cs rest:List Value}(ha:a=⟨b,off,none⟩)(t:Take M (au b cs) L'):∀(ks:List LK) (i:Nat) {f:LTs ks→Tree} {x:LTs ks} (_:cs.drop (off+i)=fq ks x++rest) (_:Tr ρ0 ρ L (f x) Post),Tr ρ0 ρ L (Du (Sat ρ M) a i ks f) Post
 |[],_,_,_,_,h=>h
 |k::ks,i,f,x,hv,h=>by
  simp only[fq,List.cons_append]at hv;have h0:cs[off+i]? =some (k.val x.1):=by have:=congrArg (fun l=>l[0]?) hv;simpa using this
  apply bo (by rw[ha,aO]) t h0;have h1:cs.drop (off+(i+1))=fq ks x.2++rest:=by have:=congrArg (fun l=>l.drop 1) hv;simpa[List.drop_drop,Nat.add_assoc,Nat.add_comm 1]using this
  exact zP ha t _ _ h1 h
theorem qh{ks:List LK}{M:List aD}{a:Addr}{f:LTs ks→Tree}{b off:Nat}{cs:List Value}{x:LTs ks}(rest:List Value)(ha:a=⟨b,off,none⟩)(t:Take M (au b cs) L')(hv:cs.drop off=fq ks x++rest)(h:Tr ρ0 ρ L (f x) Post):Tr ρ0 ρ L (rb (Sat ρ M) (.g ks) a f) Post:=
 zP ha t ks 0 (rest:=rest) (by simpa using hv) h
theorem iG{ks:List LK}{a:Addr}{f:LTs ks→Tree}{b off:Nat}{cs:List Value}{x:LTs ks}(h:Tr ρ0 ρ L (f x) Post)(ha:a=⟨b,off,none⟩:=by first |rfl|rw[aO])(t:Take L (au b cs) L':=by exact tk)(hv:GG ks off cs x:=by infer_instance):Tr ρ0 ρ L (ld (.g ks) a f) Post:=by obtain⟨r,e⟩:=hv.e;exact aN r ha t e h
theorem jG{ks:List LK}{M:List aD}{a:Addr}{f:LTs ks→Tree}{b off:Nat}{cs:List Value}{x:LTs ks}(h:Tr ρ0 ρ L (f x) Post)(ha:a=⟨b,off,none⟩:=by first |rfl|rw[aO])(t:Take M (au b cs) L':=by exact tk)(hv:GG ks off cs x:=by infer_instance):Tr ρ0 ρ L (rb (Sat ρ M) (.g ks) a f) Post:=by obtain⟨r,e⟩:=hv.e;exact qh r ha t e h
end Go.Gl
namespace Go.Proofs.YtjginndmmlkjiaaGreat
open Go Go.Gl
variable{ρ0 ρ:FR}{L L':List aD}{Post:Value→List aD→Prop}{T:Tree}
abbrev HL:List LK:=[kI,kI,kI,.bool]
abbrev HT:=LTs HL
structure Hd where
 k:Int
 c:Int
 n:Int
 f:Bool
 deriving DecidableEq
abbrev Hd.t(h:Hd):HT:=(h.k,h.c,h.n,h.f,())
abbrev Hd.cs(h:Hd):List Value:=[.int .i64 h.k,.int .i64 h.c,.int .i64 h.n,.bool h.f]
abbrev lC(h:Hd):Value:= .agg #[.int .i64 h.k,.int .i64 h.c,.int .i64 h.n,.bool h.f]
abbrev IB:RK:= .many [.l kI,.l .bool]
abbrev HB:RK:= .many [.g HL,.l .bool]
abbrev HE:RK:= .many [.g HL,.l kI]
theorem HO(x a b:Int)(s:av)(hs:fx ρ s 1 ([a,b].map i64)):Gl.Spec ρ Zp 314 [i64 x,.slice s.a s.n s.c] [] RB fun r M=>r=decide (a≤x∧x≤b)∧M=[]:=by
 refine So (F.head.in.calls x s) fun R=>?_;have hn:s.n=2:=by have:=hs.1;simpa using this.symm
 refine aM (fun n u M=>(fun i:Int=>M=R∧((i=0∧n=1)∨(i=2∧n=0∧¬(a≤x∧x≤b)))) u.1) 1 ⟨rfl,.inl ⟨rfl,rfl⟩⟩ ?_;rintro n ⟨(i:Int),⟨⟩⟩ M ⟨rfl,hi⟩ X hX;rcases hi with ⟨rfl,rfl⟩|⟨rfl,rfl,hc⟩
 ·refine bg (by rw[hn];rfl)<|bz hs ae ae fun a0 ha=>cu ha hs fX rfl<|ag (fun h=>?_) (fun h=>?_)
  ·replace h:x≥a:=oT h;have e:IntKind.wrap .i64 (0+1)=1:=by decide
   rw[e];refine bz hs (by omega) (by omega) fun a0 ha=>cu (j:=1) (x:=b) ha hs (by rintro b o rfl;simp[aO]) rfl<|ag (fun h2=>?_) (fun h2=>?_);·replace h2:x≤b:=oT h2;refine ax ?_ ⟨rfl,rfl⟩ ar bE;rw[decide_eq_true ⟨h,h2⟩];rfl
   ·replace h2:¬x≤b:=oF h2;exact hX 0 _ _ ae ⟨rfl,.inr ⟨by decide,rfl,fun h=>h2 h.2⟩⟩
  ·replace h:¬x≥a:=oF h;exact hX 0 _ _ ae ⟨rfl,.inr ⟨by decide,rfl,fun h'=>h h'.1⟩⟩
 ·refine ak (by rw[hn];rfl)<|ax ?_ ⟨rfl,rfl⟩ ar bE;rw[decide_eq_false hc];rfl
def Sp.fk(h:Hd):Bool:=
 decide (0≤h.n∧h.n≤1023)&&
 (if h.k=1 then decide (1≤h.c∧h.c≤256)else if h.k=2∨h.k=3 then decide (0≤h.c∧h.c≤0)
  else if h.k=4 then decide (1≤h.c∧h.c≤3)&&(h.n==5)&& !h.f else false)
theorem zn(h:Hd):Gl.Spec ρ Zp 292 [lC h] [] RB fun r M=>r=Sp.fk h∧M=[]:=by
 refine So (F.head.Hp.calls h.t) fun R=>?_;obtain⟨k,c,n,f⟩:=h;have call2:∀{ρ':FR} {L:List aD} (x a b:Int) (K:Bool→Tree) (_:∀ρ',Le ρ ρ'→Tr ρ ρ' L (K (decide (a≤x∧x≤b))) (SP RB (fun r M=>r=Sp.fk (Hd.mk k c n f)∧M=[]) R)) (_:Le ρ ρ'),
   Tr ρ ρ' L (nw 3 [.int .i64 a,.int .i64 b] fun b3=>call Zp 314 [.int .i64 x,.slice (oA b3) 2 2] RB K) (SP RB (fun r M=>r=Sp.fk (Hd.mk k c n f)∧M=[]) R):=by intro ρ' L x a b K hK hle;exact aq fun b3=>Rd.bk (n:=2) (m:=1) rfl .here fun ρ'' hle2 hro=>cE (HO x a b ⟨oA b3,2,2⟩ hro)<|hK _ (hle.trans hle2)
 refine aq fun b1=>lI _ _ n<|call2 n 0 _ _ (fun ρ' hle=>?_) (Le.refl _);refine ag (fun h1=>?_) (fun h1=>?_)
 ·refine ax ?_ ⟨rfl,rfl⟩ ar bE;have:decide (0≤n∧n≤1023)=false:=by grind
  simp only[Sp.fk,this,Bool.false_and];rfl
 ·have h1:decide (0≤n∧n≤1023)=true:=by simpa using h1
  refine lI _ _ k<|ag (fun h2=>?_) (fun h2=>?_)
  ·replace h2:k=1:=by simpa using h2
   refine lI _ _ c<|call2 c 1 _ _ (fun ρ' hle=>?_) hle;refine ax ?_ ⟨rfl,rfl⟩ ar bE;simp only[Sp.fk,h1,h2,if_true,Bool.true_and];rfl
  ·replace h2:¬k=1:=by simpa using h2
   refine ag (fun h3=>?_) (fun h3=>?_)
   ·refine bT ?_;replace h3:k=2:=by simpa using h3
    refine lI _ _ c<|call2 c 0 0 _ (fun ρ' hle=>?_) hle;refine ax ?_ ⟨rfl,rfl⟩ ar bE;simp only[Sp.fk,h1,h3,Bool.true_and];rfl
   ·replace h3:¬k=2:=by simpa using h3
    refine ag (fun h4=>?_) (fun h4=>?_)
    ·replace h4:k=3:=by simpa using h4
     refine lI _ _ c<|call2 c 0 0 _ (fun ρ' hle=>?_) hle;refine ax ?_ ⟨rfl,rfl⟩ ar bE;simp only[Sp.fk,h1,h4,Bool.true_and];rfl
    ·replace h4:¬k=3:=by simpa using h4
     refine ag (fun h5=>?_) (fun h5=>?_)
     ·replace h5:k=4:=by simpa using h5
      refine lI _ _ c<|call2 c 1 3 _ (fun ρ' hle=>?_) hle;have e:Sp.fk (Hd.mk k c n f)=(decide (1≤c∧c≤3)&&(n==5)&& !f):=by simp only[Sp.fk,h1,h5,Bool.true_and];rfl
      refine ag (fun h6=>?_) (fun h6=>?_)
      ·refine lI _ _ n<|ag (fun h7=>?_) (fun h7=>?_);·refine aT (x:=f) bL tk rfl<|ax ?_ ⟨rfl,rfl⟩ ar bE;rw[e,h6,h7];rfl
       ·refine ax ?_ ⟨rfl,rfl⟩ ar bE;rw[e,h6,h7];rfl
      ·refine ax ?_ ⟨rfl,rfl⟩ ar bE;rw[e,h6];rfl
     ·replace h5:¬k=4:=by simpa using h5
      refine ax ?_ ⟨rfl,rfl⟩ ar bE;simp only[Sp.fk,h1,h2,h3,h4,h5,if_false,or_self,Bool.true_and];rfl
def Sp.fV(h:Hd):Int:=h.k+16*h.c+65536*h.n+if h.f then 8 else 0
theorem Sp.cb{h:Hd}(hm:Sp.fk h=true):0≤h.n∧h.n≤1023∧1≤h.k∧h.k≤4∧0≤h.c∧h.c≤256:=by unfold Sp.fk at hm;grind
theorem uM(h:Hd):Gl.Spec ρ Zp 246 [lC h] [] IB fun r M=>r=(if Sp.fk h then(Sp.fV h,true,())else(0,false,()))∧M=[]:=by
 refine So (F.head.Ge.calls h.t) fun R=>?_;obtain⟨k,c,n,f⟩:=h;refine aq fun b1=>aN (x:=(k,c,n,f,())) [] rfl tk rfl<|cE (zn (Hd.mk k c n f))<|ag (fun h=>?_) (fun h=>?_)
 ·have h:¬Sp.fk (Hd.mk k c n f)=true:=by simpa using h
  rw[if_neg h];exact rT
 ·have h:Sp.fk (Hd.mk k c n f)=true:=by simpa using h
  rw[if_pos h];have hb:=Sp.cb h;dsimp only at hb;refine lI _ _ k<|lI _ _ c<|lI _ _ n<|aT (x:=f) bL tk rfl ?_;rw[wrap64 (n:=16*c) ae ae,wrap64 (n:=k+16*c) ae ae,wrap64 (n:=65536*n) ae ae,wrap64 (n:=k+16*c+65536*n) ae ae,wrap64 (n:=k+16*c+65536*n+8) ae ae];cases f with
  |true=>exact bT<|rT
  |false=>refine bF<|ax (x:=(Sp.fV _,true,())) ?_ ⟨rfl,rfl⟩ ar bE;simp[Sp.fV,RK.val,KD.val,LK.val,p5]
theorem Sp.vg{h:Hd}(hm:Sp.fk h=true):Int.tmod (Sp.fV h) 8=h.k∧(Int.tmod (Int.tdiv (Sp.fV h) 8) 2==1)=h.f∧Int.tdiv (Int.tmod (Sp.fV h) 65536) 16=h.c∧Int.tdiv (Sp.fV h) 65536=h.n∧0≤Sp.fV h∧Sp.fV h<2^27:=by
 have hb:=Sp.cb hm;obtain⟨k,c,n,f⟩:=h;have h0:0≤Sp.fV (Hd.mk k c n f):=by unfold Sp.fV;grind
 rw[Int.tmod_eq_emod_of_nonneg h0,Int.tdiv_eq_ediv_of_nonneg h0,Int.tmod_eq_emod_of_nonneg h0,Int.tdiv_eq_ediv_of_nonneg h0,Int.tmod_eq_emod_of_nonneg ae,Int.tdiv_eq_ediv_of_nonneg ae];unfold Sp.fV;grind
theorem zG(h:Hd)(hm:Sp.fk h=true):Gl.Spec ρ Zp 198 [i64 (Sp.fV h)] [] HB fun r M=>r=(h.t,true,())∧M=[]:=by
 refine So (F.head.Mq.calls _) fun R=>?_;obtain⟨g1,g2,g3,g4,g5,g6⟩:=Sp.vg hm;have hb:=Sp.cb hm;refine aq fun b1=>?_;have hz:zc Zp 72=[.int .i64 0,.int .i64 0,.int .i64 0,.bool false]:=by kernel_rfl
 rw[hz];refine ak fC<|bm bd (bm bd (bm bd (bm bd (bm bd (bm bd ?_)))));refine aq fun b2=>?_;rw[wrap64 (n:=Int.tdiv (Sp.fV h) 8) eV eV,g1,g2,g3,g4,bG,bG];obtain⟨k,c,n,f⟩:=h;refine iT ?_;refine aN (x:=(k,c,n,f,())) [] rfl tk rfl<|cE (uM (Hd.mk k c n f)) ?_;rw[if_pos hm];refine ak rfl (ak bu ?_);refine aN (x:=(k,c,n,f,())) [] rfl tk rfl<|iT ?_;exact aN [] rfl tk rfl<|rT
end Go.Proofs.YtjginndmmlkjiaaGreat
namespace Go.Gl
open Go
variable{ρ0 ρ:FR}{L L':List aD}{Post:Value→List aD→Prop}
theorem eJ{α:Type}{g:α→List Value}{m:Nat}(hg:∀x,(g x).length=m):∀{l:List α} {j e:Nat} {x:α},l[j]? =some x→e<m→(l.flatMap g)[j*m+e]? =(g x)[e]?
 |[],_,_,_,h,_=>by simp at h
 |y::l,0,e,x,h,he=>by grind
 |y::l,j+1,e,x,h,he=>by simp at h;rw[List.flatMap_cons,List.getElem?_append_right (by grind),hg,show(j+1)*m+e-m=j*m+e by rw[Nat.add_mul];omega];exact eJ hg h he
theorem ji{α:Type}{g:α→List Value}{m:Nat}(hg:∀x,(g x).length=m)(l:List α):(l.flatMap g).length=l.length*m:=by
 induction l with
 |nil=>simp
 |cons x l ih=>grind
theorem yU{s:av}{m:Nat}{xs:List Value}{a0:Addr}{a:Addr}{j:Nat}(hs:s.a=some a0)(t:Take L (aw s m xs) L')(ha:∀b o,a0=⟨b,o,none⟩→a=⟨b,o+j,none⟩):
  ∀(ks:List LK) (i:Nat) {f:LTs ks→Tree} {x:LTs ks} (_:∀e,e<ks.length→xs[j+i+e]? =(fq ks x)[e]?) (_:Tr ρ0 ρ L (f x) Post),Tr ρ0 ρ L (JL a i ks f) Post
 |[],_,_,_,_,h=>h
 |k::ks,i,f,x,hv,h=>by
  have h0:xs[j+i]? =some (k.val x.1):=by have:=hv 0 bu;simpa[fq]using this
  refine cw hs t (fun b o hb=>by rw[ha b o hb,aO,Nat.add_assoc]) h0<|yU hs t ha _ _ (fun e he=>?_) h;have:=hv (e+1) (by simpa using he);simp only[fq,List.getElem?_cons_succ]at this;grind
theorem FF{s:av}{m:Nat}{xs:List Value}{ks:List LK}{a a0:Addr}{f:LTs ks→Tree}{j:Nat}{x:LTs ks}(hs:s.a=some a0)(t:Take L (aw s m xs) L')(ha:∀b o,a0=⟨b,o,none⟩→a=⟨b,o+j,none⟩)
  (hx:∀e,e<ks.length→xs[j+e]? =(fq ks x)[e]?) (h:Tr ρ0 ρ L (f x) Post):Tr ρ0 ρ L (ld (.g ks) a f) Post:=
 yU hs t ha ks 0 (by simpa using hx) h
theorem ye{A:aD}{h:HP}(H:A h):sep A emp h:=⟨h,fun _=>none,fun _=> .inr rfl,by simp,H,fun _=>rfl⟩
theorem Gi{A:aD}{h:HP}(H:sep A emp h):A h:=by
 obtain⟨h1,h2,hd,rfl,ha,he⟩:=H;have:(fun b=>(h1 b).or (h2 b))=h1:=by funext b;rw[he b];cases h1 b<;>rfl
 rw[this];exact ha
theorem Es{α:Type}{P:α→aD}{l1 l2:List α}{x:α}(h:HP)(H:star ((l1++x::l2).map P) h):star [P x,star ((l1++l2).map P)] h:=by have p:((l1++x::l2).map P).Perm (P x::(l1++l2).map P):=(List.perm_middle).map P;exact eZ (fun _ h=>h) (fun _=>ye) (ru p H)
theorem dR{α:Type}{P:α→aD}{l1 l2:List α}{x:α}(h:HP)(H:star [P x,star ((l1++l2).map P)] h):star ((l1++x::l2).map P) h:=by have p:(P x::(l1++l2).map P).Perm _:=((List.perm_middle).map P).symm;exact ru p (eZ (fun _ h=>h) (fun _=>Gi) H)
theorem Tr.HA{α:Type}{P:α→aD}{l1 l2:List α}{x:α}{T:Tree}(t:Take L (star ((l1++x::l2).map P)) L')(h:Tr ρ0 ρ (P x::star ((l1++l2).map P)::L') T Post):Tr ρ0 ρ L T Post:=
 Tr.iW (ι:=Unit) (M:=fun _=>[P x,star ((l1++l2).map P)]) (c:=fun _=>True) t (fun h H=>⟨(),trivial,Es h H⟩) fun _ _=>h
theorem Tr.none{T:Tree}(h:Tr ρ0 ρ (star []::L) T Post):Tr ρ0 ρ L T Post:=fun hle w hw=>by apply h hle w;obtain⟨⟨h0,hl,hh⟩,h3⟩:=hw;exact⟨⟨h0,⟨fun _=> .none,h0,fun _=> .inl rfl,bu,fun _=>rfl,hl⟩,hh⟩,h3⟩
theorem Sat.left{ρ:FR}{A R:List aD}{w:World}(H:Sat ρ (A++R) w):Sat ρ A w:=(H.perm List.perm_append_comm).tS
theorem Rd.app{A R:List aD}{s:av}{m:Nat}{ys:List Value}(h:Rd ρ A s m ys):Rd ρ (A++R) s m ys:=⟨h.1,fun w hw=>h.2 w hw.left⟩
theorem Rd.Mh{s:av}{m:Nat}{ys:List Value}{T:Tree}(hr:Rd ρ L s m ys)(h:(s.a= .none→ys=[])→Tr ρ0 ρ L T Post):Tr ρ0 ρ L T Post:=fun hle w hw=>by
 refine h (fun hn=>?_) hle w hw;rcases hr.2 w hw with h0|⟨b,off,hb,_⟩;·have:=hr.1;simp_all
 grind
end Go.Gl
namespace Go.Proofs.YtjginndmmlkjiaaGreat
open Go Go.Gl
variable{ρ0 ρ:FR}{L L':List aD}{Post:Value→List aD→Prop}{T:Tree}
abbrev CL:List LK:=[kI,.slice]
abbrev RS:RK:= .one (.l .slice)
theorem EE(xs:List Int):(xs.map i64).all nA=true:=by simp[nA]
theorem clone{A:List aD}(s:av)(xs:List Int)(hr:Rd ρ A s 1 (xs.map i64))(hl:xs.length≤2^30):Gl.Spec ρ Zp 140 [.slice s.a s.n s.c] A RS
  fun r M=>r.n=xs.length∧M=aw r 1 (xs.map i64)::A:=by
 refine So (F.aL.Gf.calls s) fun R=>?_;have hn:s.n=xs.length:=by have:=hr.1;simpa using this.symm
 refine Rd.Mh (hr.app) fun hnil=>ag (fun h=>?_) (fun h=>?_)
 ·have:xs=[]:=by simp_all
  subst this;exact Tr.cg 1<|ax rfl ⟨rfl,rfl⟩ (aI.app (aw ⟨none,0,0⟩ 1 []::A) R) .refl
 ·exact aq fun b=>Tr.imp (A':=aw ⟨oA b,0,0⟩ 1 []) .here (aw.nI rfl)<|eu (s:=⟨oA b,0,0⟩) bJ .here hr.app (EE _) bq bq fun r hrn=>ax rfl ⟨by rw[hrn,hn];simp,rfl⟩ (aI.app (aw r 1 _::A) R) .refl
theorem vW{A:List aD}(n:Int)(s:av)(xs:List Int)(hr:Rd ρ A s 1 (xs.map i64))(hl:xs.length≤2^30):Gl.Spec ρ Zp 223 [.agg #[.int .i64 n,.slice s.a s.n s.c]] A (.one (.g CL))
  fun r M=>∃q:av,r=(n,q,())∧q.n=xs.length∧M=aw q 1 (xs.map i64)::A:=by
 refine So (F.class.own.calls (n,s,())) fun R=>aq fun b1=>aq fun b2=>?_;have hz:zc Zp 109=[.int .i64 0,.slice none 0 0]:=by kernel_rfl
 rw[hz];refine aA (aK [au _ [.int _ n,.slice s.a s.n s.c]] ar ?_);refine jL<|jL<|Tr.perm (L':=A++(au b2 [.int .i64 0,.slice none 0 0]::au b1 [.int .i64 n,.slice s.a s.n s.c]::R)) ?_ ?_;·exact(List.perm_append_comm (l₁:=[au _ [.int _ 0,.slice _ 0 0],au b1 [.int _ n,.slice _ _ s.c]])).append_right R |>.trans bu
 refine ai (clone s _ hr hl) (aI.app _ _) ?_;rintro q M ⟨hq,rfl⟩;refine Tr.perm (L':=au b2 [.int .i64 0,.slice none 0 0]::au b1 [.int .i64 n,.slice s.a s.n s.c]::(aw q 1 (xs.map i64)::A++R)) ?_ ?_;·exact((List.perm_append_comm (l₁:=[au b2 [.int _ 0,.slice _ 0 0],au b1 [.int _ n,.slice _ s.n s.c]])).append_right R |>.trans bu).symm
 refine aS (.cons (.skip .here) .nil)<|iT<|aN (x:=(n,q,())) [] rfl .here rfl<|Tr.drop .here (Tr.drop .here ?_);exact ax rfl ⟨q,rfl,hq,rfl⟩ (aI.app _ R) .refl
def Sp.C4(n:Int):Int→List Int→Bool
 |_,[]=>true|last,x::l=>if x≤last then false else if x≥n then false else Sp.C4 n x l
def Sp.kA(n:Int)(xs:List Int):Bool:=if n<0 then false else if n>1023 then false else Sp.C4 n (-1) xs
theorem DT(n:Int)(s:av)(xs:List Int)(hs:fx ρ s 1 (xs.map i64))(hl:xs.length≤2^30):Gl.Spec ρ Zp 270 [.agg #[.int .i64 n,.slice s.a s.n s.c]] [] RB
  fun r M=>r=Sp.kA n xs∧M=[]:=by
 refine So (F.class.may.calls (n,s,())) fun R=>?_;have hn:s.n=xs.length:=by have:=hs.1;simpa using this.symm
 refine aq fun b=>lI _ _ n<|ag (fun h=>?_) (fun h=>?_);·refine ax ?_ ⟨rfl,rfl⟩ ar bE;rw[Sp.kA,if_pos (oT h)];rfl
 ·replace h:=oF h;refine lI _ _ n<|ag (fun h2=>?_) (fun h2=>?_);·refine ax ?_ ⟨rfl,rfl⟩ ar bE;rw[Sp.kA,if_neg h,if_pos (oT h2)];rfl
  ·replace h2:=oF h2;refine lS _ _ s<|aM (fun m u M=>(fun last i:Int=>M=au b [.int .i64 n,.slice s.a s.n s.c]::R∧0≤i∧i≤xs.length∧m=xs.length-i.toNat∧Sp.kA n xs=Sp.C4 n last (xs.drop i.toNat)) u.1 u.2.1) xs.length ?_ ?_;·refine⟨rfl,bu,bq,bu,?_⟩;rw[Sp.kA,if_neg h,if_neg h2];rfl
   ·rintro m ⟨(last:Int),(i:Int),⟨⟩⟩ M ⟨rfl,h0,h1,rfl,hc⟩ X hX;dsimp only at*;refine ag (fun h3=>?_) (fun h3=>?_)
    ·replace h3:i<(s.n:Int):=oT h3;have hi:i.toNat<xs.length:=by omega
     refine bz hs h0 h3 fun a0 ha=>cu ha hs fX (getD_map hi) ?_;rw[hE 0 hi]at hc;unfold Sp.C4 at hc;refine ag (fun h4=>?_) (fun h4=>?_);·refine ax ?_ ⟨rfl,rfl⟩ ar bE;rw[hc,if_pos (oT h4)];rfl
     ·rw[if_neg (oF h4)]at hc;refine iL<|ag (fun h5=>?_) (fun h5=>?_);·refine ax ?_ ⟨rfl,rfl⟩ ar bE;rw[hc,if_pos (oT h5)];rfl
      ·rw[bG];refine hX (xs.length-(i+1).toNat) _ _ ae ⟨rfl,bq,bq,rfl,?_⟩;grind
    ·replace h3:¬i<(s.n:Int):=oF h3;rw[List.drop_eq_nil_of_le ae]at hc;refine ax ?_ ⟨rfl,rfl⟩ ar bE;rw[hc];rfl
abbrev aX:=Int×List Int
def nJ(x:aX×av):aD:=aw x.2 1 (x.1.2.map i64)
def iX(x:aX×av):List Value:=[i64 x.1.1,.slice x.2.a x.2.n x.2.c]
def cA(p:Nat)(cs:List aX):aD:=fun h=>∃(i:av×List (aX×av)),(i.1.n=cs.length∧i.2.map (·.1)=cs)∧star [au p [.slice i.1.a i.1.n i.1.c],aw i.1 2 (i.2.flatMap iX),star (i.2.map nJ)] h
theorem cA.op{p:Nat}{cs:List aX}(t:Take L (cA p cs) L')(h:∀(s:av) (l:List (aX×av)),s.n=cs.length→l.map (·.1)=cs→Tr ρ0 ρ (au p [.slice s.a s.n s.c]::aw s 2 (l.flatMap iX)::star (l.map nJ)::L') T Post):Tr ρ0 ρ L T Post:=
 Tr.iW (M:=fun i:av×List (aX×av)=>[au p [.slice i.1.a i.1.n i.1.c],aw i.1 2 (i.2.flatMap iX),star (i.2.map nJ)]) t (fun _ h=>h) fun i hi=>h i.1 i.2 hi.1 hi.2
theorem cA.cl{p:Nat}{cs:List aX}{s:av}{l:List (aX×av)}(hs:s.n=cs.length)(hl:l.map (·.1)=cs)(h:HP)(H:star [au p [.slice s.a s.n s.c],aw s 2 (l.flatMap iX),star (l.map nJ)] h):cA p cs h:=⟨(s,l),⟨hs,hl⟩,H⟩
theorem Dc:Gl.Spec ρ Zp 156 [] [] (.one (.l .ptr)) fun r M=>∃b,r=oA b∧M=[cA b []]:=by refine So F.class.gB.calls fun R=>aq fun b=>Tr.cg 2 (Tr.none ?_);exact Tr.close ar (cA.cl (cs:=[]) (s:=⟨none,0,0⟩) (l:=[]) rfl rfl)<|rT ⟨b,rfl,rfl⟩
theorem pw(p:Nat)(cs:List aX):Gl.Spec ρ Zp 222 [pA p] [cA p cs] R1 fun r M=>r=(cs.length:Nat)∧M=[cA p cs]:=by refine So (F.class.Table.Classes.calls _) fun R=>ak rfl (af (cA.op tk fun s l hs hl=>?_));refine iL<|tC (cA.cl hs hl) ?_;rw[hs];exact rT
theorem ER:pY Zp #[104,104] 2 32=true:=by kernel_rfl
def Sp.eE(cs:List aX)(c:aX):Int×Int×List aX:=if¬Sp.kA c.1 c.2 then(0,1,cs)else if cs.length≥256 then(0,3,cs)else(cs.length+1,0,cs++[c])
theorem Dy(p:Nat)(cs:List aX)(n:Int)(s:av)(xs:List Int)(hs:fx ρ s 1 (xs.map i64))(hl:xs.length≤2^30):
  Gl.Spec ρ Zp 221 [pA p,.agg #[.int .i64 n,.slice s.a s.n s.c]] [cA p cs] P2
  fun r M=>r=((Sp.eE cs (n,xs)).1,(Sp.eE cs (n,xs)).2.1,())∧M=[cA p (Sp.eE cs (n,xs)).2.2]:=by
 refine So (F.class.Table.Add.calls _ (n,s,())) fun R=>aq fun b1=>bF<|aN [] rfl tk rfl ?_;refine cE (DT n s _ hs hl)<|ag (fun h=>?_) (fun h=>?_)
 ·have h:¬Sp.kA n xs=true:=by simpa using h
  have e:Sp.eE cs (n,xs)=(0,1,cs):=by rw[Sp.eE,if_pos h]
  rw[e];exact rT
 ·have h:Sp.kA n xs=true:=by simpa using h
  refine af (cA.op tk fun ts l hts hl2=>?_);refine iL<|ag (fun h2=>?_) (fun h2=>?_)
  ·replace h2:=oT h2;have e:Sp.eE cs (n,xs)=(0,3,cs):=by rw[Sp.eE,if_neg (by simp[h]),if_pos ae]
   rw[e];refine tC (cA.cl hts hl2) ?_;exact rT
  ·replace h2:=oF h2;have e:Sp.eE cs (n,xs)=((cs.length:Int)+1,0,cs++[(n,xs)]):=by rw[Sp.eE,if_neg (by simp[h]),if_neg ae]
   rw[e];refine aA (aK [au p [.slice _ _ ts.c],au _ [.int _ n,.slice s.a s.n s.c]] ar ?_);refine af (hS _ _ _ ?_);refine jG ?_;refine ai (vW n s _ (Rd.ro hs) hl) ar ?_;rintro x M ⟨q,rfl,hq,rfl⟩;refine cK<|aq fun b2=>cK<|eu (x:=⟨oA b2,1,1⟩) (ys:=[.int _ n,.slice q.a q.n q.c]) ER tk (Rd.cl tk rfl rfl) rfl bq bq fun r hr=>af (cz (off:=0) bL tk bu rfl (af ?_));refine lS p 0 r<|Tr.imp (A:=star _) (A':=star ((l++([]:List _)).map nJ)) tk bu<|Tr.close (A:=star ((l++[((n,xs),q)]).map nJ)) ar (fun h H=>dR h H) ?_;have hflat:l.flatMap iX++[.int .i64 n,.slice q.a q.n q.c]=(l++[((n,xs),q)]).flatMap iX:=by simp only[List.flatMap_append,List.flatMap_cons,List.flatMap_nil,iX,List.append_nil]
   rw[hflat];refine Tr.close ar (cA.cl (cs:=cs++[(n,xs)]) (by rw[hr,hts];simp) (by simp[hl2]))<|ax (x:=((cs.length:Int)+1,0,())) ?_ ⟨rfl,rfl⟩ ar bE;rw[hr,hts];rfl
theorem GI(p:Nat)(cs:List aX)(n:Int)(s:av)(xs:List Int)(hs:fx ρ s 1 (xs.map i64))(hl:xs.length≤2^30):
  Gl.Spec ρ Zp 158 [pA p,i64 n,.slice s.a s.n s.c] [cA p cs] P2
  fun r M=>r=((Sp.eE cs (n,xs)).1,(Sp.eE cs (n,xs)).2.1,())∧M=[cA p (Sp.eE cs (n,xs)).2.2]:=by exact So (F.class.Table.Of.calls _ n s) fun R=>cE (Dy p _ n s _ hs hl)<|rT
abbrev CE:RK:= .many [.g CL,.l kI]
theorem iO(p:Nat)(cs:List aX)(i:Int)(hi:¬(1≤i∧i≤cs.length)):Gl.Spec ρ Zp 159 [pA p,i64 i] [cA p cs] CE
  fun r M=>r=((0,⟨none,0,0⟩,()),2,())∧M=[cA p cs]:=by
 refine So (F.class.Table.Class.calls _ i) fun R=>?_;unfold F.class.Table.Class;have hz:zc Zp 109=[.int .i64 0,.slice none 0 0]:=by kernel_rfl
 rw[hz];refine aq fun b1=>ag (fun h=>?_) (fun h=>?_);·refine iT ?_;exact aN (x:=(0,⟨none,0,0⟩,())) [] rfl tk rfl<|rT
 ·replace h:=oF h;apply cE (pw p _);refine bg fC<|iT ?_;exact aN (x:=(0,⟨none,0,0⟩,())) [] rfl tk rfl<|rT
theorem kE(p:Nat)(cs:List aX)(i:Nat)(c:aX)(hc:cs[i]? =some c)(jb:cs.length≤256)(hb:c.2.length≤2^30):Gl.Spec ρ Zp 159 [pA p,i64 (i+1)] [cA p cs] CE
  fun r M=>∃q:av,r=((c.1,q,()),0,())∧q.n=c.2.length∧M=[cA p cs,aw q 1 (c.2.map i64)]:=by
 have hi:i<cs.length:=by grind
 refine So (F.class.Table.Class.calls _ _) fun R=>?_;unfold F.class.Table.Class;have hz:zc Zp 109=[.int .i64 0,.slice none 0 0]:=by kernel_rfl
 rw[hz];refine aq fun b1=>bF<|cE (pw p _) ?_;refine ak fC (af (cA.op tk fun ts l hts hl2=>?_));refine iL ?_;have w1:IntKind.wrap .i64 (i+1-1)=i:=by rw[bG];omega
 rw[w1];obtain⟨s,hs⟩:∃s,l[i]? =some (c,s):=by grind
 refine bD (s:=ts) (xs:=l.flatMap iX) tk (by omega) (by rw[hts];omega) fun a0 ha=>FF (s:=ts) (xs:=l.flatMap iX) (j:=i*2) (x:=(c.1,s,())) ha tk (by rintro b o rfl;simp[aO]) (fun e he=>?_) ?_;·rw[eJ (g:=iX) (m:=2) (fun _=>rfl) hs (by simpa using he)];rfl
 obtain⟨l1,l2,hl12⟩:∃l1 l2,l=l1++(c,s)::l2:=by
  have hll:i<l.length:=by grind
  refine⟨l.take i,l.drop (i+1),?_⟩;have:l[i]=(c,s):=by grind
  rw[←this,←List.drop_eq_getElem_cons hll,List.take_append_drop]
 subst hl12;refine Tr.HA tk ?_;refine Tr.fA (s:=s) (xs:=c.2.map _) .here fun hlen _=>ai (vW (A:=[nJ _]) c.1 s _ (Rd.sl .here hlen) hb) ar ?_;rintro x M ⟨q,rfl,hq,rfl⟩;refine Tr.close (A:=star ((l1++_::l2).map _)) ar (fun h H=>dR h H)<|iT ?_;refine aN (x:=(c.1,q,())) [] rfl tk rfl<|tC (cA.cl hts hl2) ?_;exact rT ⟨q,rfl,hq,rfl⟩
end Go.Proofs.YtjginndmmlkjiaaGreat
namespace Go.Proofs
open Go.Shelf
def Tryz.BU:Go.Shelf.Ren:=⟨fun |5=>196|8=>244|7=>243|19=>290|20=>291|10=>281|11=>282|12=>283|13=>284|14=>285|15=>286|16=>287|17=>288|18=>289|30=>309|31=>310|32=>311|33=>312|34=>313|35=>294|40=>325|n=>n,fun |23=>43|25=>3|3=>3|32=>303|22=>43|0=>0|44=>337|46=>339|4=>4|36=>330|35=>329|41=>110|5=>5|9=>9|53=>347|57=>351|63=>356|64=>357|n=>n,fun |n=>n⟩
theorem Tryz.xz:Go.Proofs.SlLaysM.n5 Tryz.prog Tryz.BU:={
 mixed:=by kernel_rfl
 f5:=⟨Tryz.f196.name,by decide,Tryz.func196.trans (congrArg some (by kernel_rfl))⟩
 f7:=⟨Tryz.f243.name,by decide,Tryz.func243.trans (congrArg some (by kernel_rfl))⟩
 f8:=Tryz.func244.trans (congrArg some (by kernel_rfl))
 f10:=⟨Tryz.f281.name,by decide,Tryz.func281.trans (congrArg some (by kernel_rfl))⟩
 f11:=⟨Tryz.f282.name,by decide,Tryz.func282.trans (congrArg some (by kernel_rfl))⟩
 f12:=⟨Tryz.f283.name,by decide,Tryz.func283.trans (congrArg some (by kernel_rfl))⟩
 f13:=⟨Tryz.f284.name,by decide,Tryz.func284.trans (congrArg some (by kernel_rfl))⟩
 f14:=⟨Tryz.f285.name,by decide,Tryz.func285.trans (congrArg some (by kernel_rfl))⟩
 f15:=⟨Tryz.f286.name,by decide,Tryz.func286.trans (congrArg some (by kernel_rfl))⟩
 f16:=⟨Tryz.f287.name,by decide,Tryz.func287.trans (congrArg some (by kernel_rfl))⟩
 f17:=⟨Tryz.f288.name,by decide,Tryz.func288.trans (congrArg some (by kernel_rfl))⟩
 f18:=⟨Tryz.f289.name,by decide,Tryz.func289.trans (congrArg some (by kernel_rfl))⟩
 f19:=Tryz.func290.trans (congrArg some (by kernel_rfl))
 f20:=Tryz.func291.trans (congrArg some (by kernel_rfl))
 f30:=⟨Tryz.f309.name,by decide,Tryz.func309.trans (congrArg some (by kernel_rfl))⟩
 f31:=Tryz.func310.trans (congrArg some (by kernel_rfl))
 f32:=Tryz.func311.trans (congrArg some (by kernel_rfl))
 f33:=⟨Tryz.f312.name,by decide,Tryz.func312.trans (congrArg some (by kernel_rfl))⟩
 f34:=⟨Tryz.f313.name,by decide,Tryz.func313.trans (congrArg some (by kernel_rfl))⟩
 f35:=⟨Tryz.f294.name,by decide,Tryz.func294.trans (congrArg some (by kernel_rfl))⟩
 f40:=⟨Tryz.f325.name,by decide,Tryz.func325.trans (congrArg some (by kernel_rfl))⟩
 t0:=Tryz.underlying0
 a0:=Tryz.isAgg0
 z0:=Tryz.sizeOf0
 v0:=Tryz.zeroValue0
 t3:=Tryz.underlying3
 a3:=Tryz.isAgg3
 z3:=Tryz.sizeOf3
 v3:=Tryz.zeroValue3
 t4:=Tryz.underlying4
 a4:=Tryz.isAgg4
 z4:=Tryz.sizeOf4
 v4:=Tryz.zeroValue4
 t5:=Tryz.underlying5
 a5:=Tryz.isAgg5
 z5:=Tryz.sizeOf5
 v5:=Tryz.zeroValue5
 t9:=Tryz.underlying9
 a9:=Tryz.isAgg9
 z9:=Tryz.sizeOf9
 v9:=Tryz.zeroValue9
 t22:=Tryz.underlying43
 a22:=Tryz.isAgg43
 z22:=Tryz.sizeOf43
 v22:=Tryz.zeroValue43
 t23:=Tryz.underlying43
 a23:=Tryz.isAgg43
 z23:=Tryz.sizeOf43
 v23:=Tryz.zeroValue43
 t25:=Tryz.underlying3
 a25:=Tryz.isAgg3
 z25:=Tryz.sizeOf3
 v25:=Tryz.zeroValue3
 t32:=Tryz.underlying303
 a32:=Tryz.isAgg303
 z32:=Tryz.sizeOf303
 v32:=Tryz.zeroValue303
 t35:=Tryz.underlying329
 a35:=Tryz.isAgg329
 z35:=Tryz.sizeOf329
 v35:=Tryz.zeroValue329
 t36:=Tryz.underlying330
 a36:=Tryz.isAgg330
 z36:=Tryz.sizeOf330
 v36:=Tryz.zeroValue330
 t41:=Tryz.underlying110
 a41:=Tryz.isAgg110
 z41:=Tryz.sizeOf110
 v41:=Tryz.zeroValue110
 t44:=Tryz.underlying337
 a44:=Tryz.isAgg337
 z44:=Tryz.sizeOf337
 v44:=Tryz.zeroValue337
 t46:=Tryz.underlying339
 a46:=Tryz.isAgg339
 z46:=Tryz.sizeOf339
 v46:=Tryz.zeroValue339
 t53:=Tryz.underlying347
 a53:=Tryz.isAgg347
 z53:=Tryz.sizeOf347
 v53:=Tryz.zeroValue347
 t57:=Tryz.underlying351
 a57:=Tryz.isAgg351
 z57:=Tryz.sizeOf351
 v57:=Tryz.zeroValue351
 t63:=Tryz.underlying356
 a63:=Tryz.isAgg356
 z63:=Tryz.sizeOf356
 v63:=Tryz.zeroValue356
 t64:=Tryz.underlying357
 a64:=Tryz.isAgg357
 z64:=Tryz.sizeOf357
 v64:=Tryz.zeroValue357}
def Tryz.qv:Go.Shelf.Ren:=⟨fun |6=>332|8=>335|9=>196|11=>337|13=>244|12=>243|23=>290|24=>291|14=>281|15=>282|16=>283|17=>284|18=>285|19=>286|20=>287|21=>288|22=>289|25=>309|26=>310|27=>311|28=>312|29=>313|30=>294|31=>325|n=>n,fun |26=>3|28=>365|24=>43|0=>0|3=>3|37=>303|48=>337|50=>339|4=>4|40=>330|39=>329|45=>110|5=>5|9=>9|51=>347|55=>351|57=>356|58=>357|33=>177|n=>n,fun |n=>n⟩
theorem Tryz.EM:Go.Proofs.SlLaysZI.n6 Tryz.prog Tryz.qv:={
 mixed:=by kernel_rfl
 f6:=⟨Tryz.f332.name,by decide,Tryz.func332.trans (congrArg some (by kernel_rfl))⟩
 f8:=⟨Tryz.f335.name,by decide,Tryz.func335.trans (congrArg some (by kernel_rfl))⟩
 f11:=⟨Tryz.f337.name,by decide,Tryz.func337.trans (congrArg some (by kernel_rfl))⟩
 t0:=Tryz.underlying0
 a0:=Tryz.isAgg0
 z0:=Tryz.sizeOf0
 v0:=Tryz.zeroValue0
 t24:=Tryz.underlying43
 a24:=Tryz.isAgg43
 z24:=Tryz.sizeOf43
 v24:=Tryz.zeroValue43
 t26:=Tryz.underlying3
 a26:=Tryz.isAgg3
 z26:=Tryz.sizeOf3
 v26:=Tryz.zeroValue3
 t28:=Tryz.underlying365
 a28:=Tryz.isAgg365
 z28:=Tryz.sizeOf365
 v28:=Tryz.zeroValue365
 i26:=by kernel_rfl}
def Tryz.pv:Go.Shelf.Ren:=⟨fun |7=>333|10=>336|n=>n,fun |23=>256|26=>3|3=>260|28=>365|0=>0|27=>364|33=>177|4=>4|n=>n,fun |n=>n⟩
theorem Tryz.wB:Go.Proofs.SlLaysZI.n7 Tryz.prog Tryz.pv:={
 mixed:=by kernel_rfl
 f7:=⟨Tryz.f333.name,by decide,Tryz.func333.trans (congrArg some (by kernel_rfl))⟩
 f10:=⟨Tryz.f336.name,by decide,Tryz.func336.trans (congrArg some (by kernel_rfl))⟩
 t0:=Tryz.underlying0
 a0:=Tryz.isAgg0
 z0:=Tryz.sizeOf0
 v0:=Tryz.zeroValue0
 t4:=Tryz.underlying4
 a4:=Tryz.isAgg4
 z4:=Tryz.sizeOf4
 v4:=Tryz.zeroValue4
 t23:=Tryz.underlying256
 a23:=Tryz.isAgg256
 z23:=Tryz.sizeOf256
 v23:=Tryz.zeroValue256
 t26:=Tryz.underlying3
 a26:=Tryz.isAgg3
 z26:=Tryz.sizeOf3
 v26:=Tryz.zeroValue3
 t27:=Tryz.underlying364
 a27:=Tryz.isAgg364
 z27:=Tryz.sizeOf364
 v27:=Tryz.zeroValue364
 t28:=Tryz.underlying365
 a28:=Tryz.isAgg365
 z28:=Tryz.sizeOf365
 v28:=Tryz.zeroValue365
 t33:=Tryz.underlying177
 a33:=Tryz.isAgg177
 z33:=Tryz.sizeOf177
 v33:=Tryz.zeroValue177}
end Go.Proofs
namespace Go.Gl
open Go
section
variable{α:Type}
theorem qC{k:Int}{a:α}:∀{l:List (Int×α)},(l.map (·.1)).Nodup→(iy k l=some a↔(k,a)∈l)
 |[],_=>by simp[iy]
 |x::l,hn=>by
  simp only[List.map_cons,List.nodup_cons]at hn;unfold iy;by_cases hx:x.1=k;·grind
  ·rw[if_neg hx,qC hn.2];grind
theorem wJ{k:Int}:∀{l:List (Int×α)},iy k l=none↔∀a,(k,a)∉l
 |[]=>by simp[iy]
 |x::l=>by
  unfold iy;by_cases hx:x.1=k;·grind
  ·rw[if_neg hx,wJ];grind
theorem mP{k i:Int}{a b:α}:∀{l:List (Int×α)},(l.map (·.1)).Nodup→((i,b)∈lf k a l↔(i=k∧b=a)∨(i≠k∧(i,b)∈l))
 |[],_=>by simp[lf]
 |x::l,hn=>by
  simp only[List.map_cons,List.nodup_cons]at hn;unfold lf;by_cases hx:x.1=k;·grind
  ·rw[if_neg hx,List.mem_cons,mP hn.2,List.mem_cons];grind
theorem qo{k i:Int}{b:α}:∀{l:List (Int×α)},(l.map (·.1)).Nodup→((i,b)∈mj k l↔i≠k∧(i,b)∈l)
 |[],_=>by simp[mj]
 |x::l,hn=>by
  simp only[List.map_cons,List.nodup_cons]at hn;unfold mj;by_cases hx:x.1=k;·grind
  ·rw[if_neg hx,List.mem_cons,qo hn.2,List.mem_cons];grind
theorem lD{k:Int}{a:α}:∀{l:List (Int×α)},iy k l=some a→∃l1 l2,l=l1++(k,a)::l2∧(∀a',lf k a' l=l1++(k,a')::l2)∧mj k l=l1++l2
 |[],h=>by cases h
 |x::l,h=>by
  unfold iy at h;by_cases hx:x.1=k;·rw[if_pos hx]at h;injection h with h;refine⟨[],l,by rw[←hx,←h];rfl,fun a'=>by simp[lf,hx],by simp[mj,hx]⟩
  ·rw[if_neg hx]at h;obtain⟨l1,l2,h1,h2,h3⟩:=lD h;exact⟨x::l1,l2,by rw[h1];rfl,fun a'=>by simp[lf,hx,h2 a'],by simp[mj,hx,h3]⟩
theorem yY{k:Int}{a:α}:∀{l:List (Int×α)},iy k l=none→lf k a l=l++[(k,a)]
 |[],_=>rfl
 |x::l,h=>by
  unfold iy at h;by_cases hx:x.1=k;·grind
  ·rw[if_neg hx]at h;simp[lf,hx,yY h]
end
variable{ρ0 ρ:FR}{L L':List aD}{Post:Value→List aD→Prop}
theorem Tr.keys{α:Type}{b:Nat}{f:α→Value}{l:List (Int×α)}{T:Tree}(t:Take L (IM b f l) L')(h:(l.map (·.1)).Nodup→Tr ρ0 ρ L T Post):Tr ρ0 ρ L T Post:=fun hle w hw=>by obtain⟨es,clock,he,_⟩:=(hw.perm t.perm).im;exact h he.keys hle w hw
theorem IM.ghost{α β:Type}{b:Nat}{f:α→Value}{g:β→Value}{l:List (Int×α)}{l':List (Int×β)}(h:l.map (fun x=>(x.1,f x.2))=l'.map fun x=>(x.1,g x.2))(hp:HP)(H:IM b f l hp):IM b g l' hp:=by
 obtain⟨es,clock,⟨h1,h2,h3,h4⟩,hm⟩:=H;refine⟨es,clock,⟨?_,h2,h3,?_⟩,hm⟩;·have:=congrArg (List.map fun x:Int×Value=>(Value.int .i64 x.1,x.2)) h;simp only[List.map_map]at this;rw[h1];exact this
 ·have:=congrArg (List.map fun x:Int×Value=>x.1) h;simp only[List.map_map]at this;have e:l.map (·.1)=l'.map (·.1):=this;rw[←e];exact h4
end Go.Gl
namespace Go.Proofs.YtjginndmmlkjiaaGreat
open Go Go.Gl
inductive Pg|res|free|small (c:Nat) (l:List Bool)|head (k:Nat)|tail
 deriving DecidableEq
def Pg.taken:Pg→Bool| .free=>false|_=>true
structure aJ where
 ws:List Int
 pg:List Pg
structure Wf(S:aJ):Prop where
 len:S.ws.length=64*S.pg.length
 fF:S.pg.length≤256
 pos:1≤S.pg.length
 res:∀i:Nat,S.pg[i]? =some .res↔i=0
 small:∀(i c:Nat) (l:List Bool),S.pg[i]? =some (.small c l)→c<5∧l.length=64/Sp.sz c
 head:∀i k:Nat,S.pg[i]? =some (.head k)→1≤k∧k≤16∧i+k≤S.pg.length∧∀j:Nat,i<j→j<i+k→S.pg[j]? =some .tail
 tail:∀j:Nat,S.pg[j]? =some .tail→∃i k:Nat,S.pg[i]? =some (.head k)∧i<j∧j<i+k
def Sp.own(pg:List Pg)(p:Nat):Option (Nat×Nat):=(List.range pg.length).findSome? fun(j:Nat)=>match pg[j]? with |some (Pg.head k)=>if j≤p∧p<j+k then some (j,k)else none|_=>none
theorem Sp.vr{pg:List Pg}{p j k:Nat}(h:Sp.own pg p=some (j,k)):pg[j]? =some (.head k)∧j≤p∧p<j+k:=by obtain⟨i,_,hi⟩:=List.exists_of_findSome?_eq_some h;grind
theorem Wf.uniq{S:aJ}(h:Wf S){i k i' k' p:Nat}(h1:S.pg[i]? =some (.head k))(h2:S.pg[i']? =some (.head k'))(g1:i≤p∧p<i+k)(g2:i'≤p∧p<i'+k'):i=i'∧k=k':=by
 have e:i=i':=by
  rcases Nat.lt_trichotomy i i' with c|c|c;·have:=(h.head i k h1).2.2.2 i' c ae;grind
  ·exact c
  ·have:=(h.head i' k' h2).2.2.2 i c ae;grind
 grind
theorem cf{α:Type}{l:List α}{i:Nat}{x:α}(h:l[i]? =some x):i<l.length:=by grind
theorem Sp.ov{S:aJ}(hw:Wf S){p j k:Nat}(h:S.pg[j]? =some (.head k))(hp:j≤p∧p<j+k):Sp.own S.pg p=some (j,k):=by
 cases hn:Sp.own S.pg p with
 |none=>unfold Sp.own at hn;grind
 |some x=>obtain⟨h1,h2⟩:=Sp.vr hn;obtain⟨e1,e2⟩:=hw.uniq h h1 hp h2;rw[e1,e2]
theorem Sp.uZ{pg:List Pg}{p:Nat}(h:∀j k:Nat,pg[j]? =some (.head k)→¬(j≤p∧p<j+k)):Sp.own pg p=none:=by
 cases hn:Sp.own pg p with
 |none=>rfl
 |some x=>have:=Sp.vr hn;grind
def Sp.find(S:aJ)(a:Int):Option (Nat×Nat):=
 if 0≤a∧a<S.ws.length then
  match S.pg[a.toNat/64]? with
  |some (.small c l)=>if l.getD (a.toNat%64/Sp.sz c) false then some (a.toNat/64*64+a.toNat%64/Sp.sz c*Sp.sz c,Sp.sz c)else none
  |_=>(Sp.own S.pg (a.toNat/64)).map fun x=>(x.1*64,x.2*64)
 else none
def Sp.jY(pg:List Pg)(c:Nat):Option Nat:=(List.range pg.length).find? fun(p:Nat)=>match pg[p]? with |some (Pg.small c' l)=>c'==c&& !decide (l.count true=l.length)|_=>false
def Sp.kF(pg:List Pg)(p k:Nat):List Pg:=pg.mapIdx fun j x=>if j=p then .head k else if p<j∧j<p+k then .tail else x
def Sp.gX(pg:List Pg)(p k:Nat):List Pg:=pg.mapIdx fun j x=>if p≤j∧j<p+k then .free else x
def Sp.cO(pg:List Pg)(p c:Nat)(l:List Bool):Int×Int×List Pg:=
 ((p*64+(Sp.next l 0 false).toNat*Sp.sz c:Nat),0,pg.set p (.small c (l.set (Sp.next l 0 false).toNat true)))
def Sp.blocks(pg:List Pg)(p:Nat):List Bool:=match pg[p]? with |some (Pg.small _ l)=>l|_=>[]
def Sp.place(pg:List Pg)(w:Int):Int×Int×List Pg:=
 if Sp.cls w<0 then
  match Sp.run (pg.map Pg.taken) (Sp.pj w).toNat with
  |some p=>((p*64:Nat),0,Sp.kF pg p (Sp.pj w).toNat)
  |none=>(0,3,pg)
 else
  match Sp.jY pg (Sp.cls w).toNat with
  |some p=>Sp.cO pg p (Sp.cls w).toNat (Sp.blocks pg p)
  |none=>(match Sp.run (pg.map Pg.taken) 1 with
   |some p=>Sp.cO pg p (Sp.cls w).toNat (List.replicate (64/Sp.sz (Sp.cls w).toNat) false)
   |none=>(0,3,pg))
def Sp.alloc(S:aJ)(w:Int):Int×Int×aJ:=
 if Sp.au w=0 then(0,1,S)
 else if(Sp.place S.pg w).2.1=0 then((Sp.place S.pg w).1,0,⟨Sp.iu S.ws (Sp.place S.pg w).1.toNat (Sp.au w).toNat,(Sp.place S.pg w).2.2⟩)
 else(0,(Sp.place S.pg w).2.1,S)
def Sp.dH(S:aJ)(a:Int):Int×aJ:=
 match Sp.find S a with
 |some (s,_)=>if(s:Int)=a then
   (match S.pg[a.toNat/64]? with
    |some (.small c l)=>(0,⟨S.ws,S.pg.set (a.toNat/64) (if(l.set (a.toNat%64/Sp.sz c) false).count true=0 then .free else .small c (l.set (a.toNat%64/Sp.sz c) false))⟩)
    |some (.head k)=>(0,⟨S.ws,Sp.gX S.pg (a.toNat/64) k⟩)
    |_=>(0,S))
  else(2,S)
 |none=>(2,S)
def Sp.jh(p:Nat):Pg→List Int
 | .small c l=>(List.range l.length).filterMap fun i=>if l.getD i false then some ((p*64+i*Sp.sz c:Nat):Int)else none
 | .head _=>[((p*64:Nat):Int)]
 |_=>[]
def Sp.each(S:aJ):List Int:=(List.range S.pg.length).flatMap fun p=>Sp.jh p (S.pg.getD p .free)
theorem Sp.gn{S:aJ}{n c:Nat}{l:List Bool}(h0:n<S.ws.length)(hp:S.pg[n/64]? =some (.small c l)):
  Sp.find S n=if l.getD (n%64/Sp.sz c) false then some (n/64*64+n%64/Sp.sz c*Sp.sz c,Sp.sz c)else none:=by unfold Sp.find;grind
theorem Sp.fb{S:aJ}{n:Nat}(h0:n<S.ws.length)(hp:∀c l,S.pg[n/64]? ≠some (.small c l)):Sp.find S n=(Sp.own S.pg (n/64)).map fun x=>(x.1*64,x.2*64):=by unfold Sp.find;grind
theorem Sp.iH{S:aJ}{a:Int}(h:¬(0≤a∧a<S.ws.length)):Sp.find S a=none:=by unfold Sp.find;rw[if_neg h]
abbrev vx:=Nat×Nat×List Bool
def eO(pg:List Pg)(ls:List (Int×vx)):Prop:=∀(i:Int) (c:Nat) (l:List Bool),(∃q,(i,q,c,l)∈ls)↔(0≤i∧pg[i.toNat]? =some (.small c l))
def fj(pg:List Pg)(ll:List (Int×Nat)):Prop:=∀(i:Int) (k:Nat),(i,k)∈ll↔(0≤i∧pg[i.toNat]? =some (.head k))
def fS(x:vx):Value:=pA x.1
def fL(k:Nat):Value:=i64 k
theorem eO.get{pg:List Pg}{ls:List (Int×vx)}(h:eO pg ls)(hn:(ls.map (·.1)).Nodup){p c:Nat}{l:List Bool}(hp:pg[p]? =some (.small c l)):∃q,iy (p:Int) ls=some (q,c,l):=by obtain⟨q,hq⟩:=(h p c l).mpr ⟨ae,by simpa using hp⟩;exact⟨q,(qC hn).mpr hq⟩
theorem eO.none{pg:List Pg}{ls:List (Int×vx)}(h:eO pg ls){p:Nat}(hp:∀c l,pg[p]? ≠some (.small c l)):iy (p:Int) ls=none:=by rw[wJ];rintro⟨q,c,l⟩ hm;have:=((h p c l).mp ⟨q,hm⟩).2;grind
theorem fj.get{pg:List Pg}{ll:List (Int×Nat)}(h:fj pg ll)(hn:(ll.map (·.1)).Nodup){p k:Nat}(hp:pg[p]? =some (.head k)):iy (p:Int) ll=some k:=
 (qC hn).mpr ((h p k).mpr ⟨by omega,by simpa using hp⟩)
theorem eO.set{pg:List Pg}{ls:List (Int×vx)}(h:eO pg ls)(hn:(ls.map (·.1)).Nodup){p c q:Nat}{l:List Bool}(hp:p<pg.length):eO (pg.set p (.small c l)) (lf (p:Int) (q,c,l) ls):=by
 intro i c' l';by_cases hi:i=p
 ·subst hi;simp only[Int.toNat_natCast,List.getElem?_set,hp];constructor;·rintro⟨q',hq⟩;rw[mP hn]at hq;grind
  ·rintro⟨_,hq⟩;simp at hq;exact⟨q,(mP hn).mpr (.inl ⟨rfl,by rw[hq.1,hq.2]⟩)⟩
 ·have:(∃q',(i,q',c',l')∈lf (p:Int) (q,c,l) ls)↔∃q',(i,q',c',l')∈ls:=by
   constructor;·rintro⟨q',hq⟩;rw[mP hn]at hq;grind
   ·rintro⟨q',hq⟩;exact⟨q',(mP hn).mpr (.inr ⟨hi,hq⟩)⟩
  rw[this,h i c' l'];grind
theorem eO.del{pg:List Pg}{ls:List (Int×vx)}(h:eO pg ls)(hn:(ls.map (·.1)).Nodup){p:Nat}{x:Pg}(hx:∀c l,x≠.small c l):eO (pg.set p x) (mj (p:Int) ls):=by
 intro i c' l';have:(∃q',(i,q',c',l')∈mj (p:Int) ls)↔i≠p∧∃q',(i,q',c',l')∈ls:=by
  constructor;·rintro⟨q',hq⟩;rw[qo hn]at hq;grind
  ·rintro⟨h1,q',hq⟩;exact⟨q',(qo hn).mpr ⟨h1,hq⟩⟩
 rw[this,h i c' l'];grind
theorem eO.same{pg pg':List Pg}{ls:List (Int×vx)}(h:eO pg ls)(e:∀(j:Nat) c l,pg[j]? =some (.small c l)↔pg'[j]? =some (.small c l)):eO pg' ls:=fun i c l=>by rw[h i c l,e]
theorem fj.same{pg pg':List Pg}{ll:List (Int×Nat)}(h:fj pg ll)(e:∀(j:Nat) k,pg[j]? =some (.head k)↔pg'[j]? =some (.head k)):fj pg' ll:=fun i k=>by rw[h i k,e]
theorem fj.set{pg pg':List Pg}{ll:List (Int×Nat)}(h:fj pg ll)(hn:(ll.map (·.1)).Nodup){p k:Nat}(hp:pg'[p]? =some (.head k))(e:∀(j:Nat) k',j≠p→(pg[j]? =some (.head k')↔pg'[j]? =some (.head k'))):fj pg' (lf (p:Int) k ll):=by intro i k';rw[mP hn,h i k'];grind
theorem fj.del{pg pg':List Pg}{ll:List (Int×Nat)}(h:fj pg ll)(hn:(ll.map (·.1)).Nodup){p:Nat}(hp:∀k,pg'[p]? ≠some (.head k))(e:∀(j:Nat) k',j≠p→(pg[j]? =some (.head k')↔pg'[j]? =some (.head k'))):fj pg' (mj (p:Int) ll):=by intro i k';rw[qo hn,h i k'];grind
end Go.Proofs.YtjginndmmlkjiaaGreat
namespace Go.Gl
open Go
variable{ρ0 ρ:FR}{L L':List aD}{Post:Value→List aD→Prop}
theorem Sat.later{L:List aD}{w w':World}(h:∀(c:Nat) (o:Obj),w.heap[c]? =some o→w'.heap[c]? =some o)(hs:Sm w w')(H:Sat ρ L w):Sat ρ L w':=by obtain⟨⟨h0,hl,hh⟩,h3⟩:=H;exact⟨⟨h0,hl,fun b o hb=>⟨h b o (hh b o hb).1,(hh b o hb).2⟩⟩,⟨fun b o hb=>h b o (h3 b o hb),h3.same.trans hs⟩⟩
theorem Sat.below{L:List aD}{w w':World}(hb:RowKit.Below w.heap.size w w')(H:Sat ρ L w):Sat ρ L w':=
 Sat.later (fun c o h=>by
  have:c<w.heap.size:=by grind
  rw[hb.block c this];exact h) ⟨hb.os,hb.tape,hb.output⟩ H
theorem Sat.fresh{L:List aD}{w w':World}{g:Nat}{o:Obj}(hb:RowKit.Below w.heap.size w w')(hg:w.heap.size≤g)(ho:w'.heap[g]? =some o)(H:Sat ρ L w):Sat ρ (Gl.pt g o::L) w':=by
 have lt:∀b u,w.heap[b]? =some u→b<w.heap.size:=fun b u hb=>by grind
 obtain⟨⟨h0,hl,hh⟩,h3⟩:=H;refine⟨⟨fun c=>((fun c=>if c=g then some o else none) c).or _,⟨_,h0,fun c=>?_,rfl,rfl,hl⟩,fun c u hu=>?_⟩,⟨fun c u hu=>?_,h3.same.trans ⟨hb.os,hb.tape,hb.output⟩⟩⟩
 ·by_cases hc:c=g
  ·right;cases hx:h0 c with
   |none=>rfl
   |some u=>grind
  ·left;simp[hc]
 ·by_cases hc:c=g
  ·subst hc;simp at hu;subst hu;refine⟨ho,?_⟩;cases hx:ρ c with
   |none=>rfl
   |some u=>have:=lt _ _ (h3 _ _ hx);omega
  ·simp[hc]at hu;have:=hh c u hu;exact⟨by rw[hb.block c (lt _ _ this.1)];exact this.1,this.2⟩
 ·have:=h3 c u hu;rw[hb.block c (lt _ _ this)];exact this
end Go.Gl
namespace Go.Proofs.YtjginndmmlkjiaaGreat
section
open Go Go.Gl
variable{ρ:FR}
def Sp.sort(xs:List Int):List Int:=xs.mergeSort fun x y=>decide (x≤y)
theorem Sp.kC{xs:List Int}:(Sp.sort xs).length=xs.length:=by simp[Sp.sort]
theorem Sp.oY{xs ys:List Int}(h:xs.Perm ys):Sp.sort xs=Sp.sort ys:=mergeSort_of_perm_i h
theorem Sp.te{xs:List Int}(h:xs.Pairwise (·≤·)):Sp.sort xs=xs:=List.mergeSort_of_pairwise (by simpa using h)
theorem wG(s:av)(xs:List Int)(hl:xs.length<2^40):Gl.Spec ρ Zp 196 [.slice s.a s.n s.c] [aw s 1 (xs.map i64)] (.many [])
  fun _ M=>M=[aw s 1 ((Sp.sort xs).map i64)]:=by
 intro R w hw;rcases hw.sl with ⟨g1,g2,g3,g4,g5⟩|⟨b,off,pre,rest,g1,g2,g3,g4,g5,g6⟩
 ·have hx:xs=[]:=by simpa using g4
  subst hx;rw[g1,g2,g3];apply (AnyM.slices_Sort_int_none Tryz.xz _ 0 w).mono;rintro e w' ⟨rfl,rfl⟩;exact⟨(),_,rfl,rfl,by rw[show Sp.sort []=[]from by simp[Sp.sort]];exact hw⟩
 ·have hn:s.n=xs.length:=by simpa using g3.symm
  obtain⟨t,hb⟩:=g6.cl;have hlt:=(Array.getElem?_eq_some_iff.1 hb).1;have hget:∀j,j<xs.length→(pre++(xs.map i64++rest))[off+j]? =(xs.map i64)[j]? :=fun j hj=>by grind
  have hH:Sort.Holds (Value.int .i64) w b off xs.toArray:=by intro j hj;simp only[List.size_toArray]at hj;refine⟨?_,by simp[World.frozen?,hb]⟩;apply cell_of hb;grind
  rw[g1,hn];apply (AnyM.slices_Sort_int Tryz.xz b _ _ _ w hH hlt ae).mono;rintro e w' ⟨rfl,n,os,rfl⟩;refine⟨(),_,rfl,rfl,?_⟩;have fB:(Sort.putCells (Value.int .i64) off (Sp.sort xs).toArray (pre++(xs.map i64++rest)).toArray)=(pre++((Sp.sort xs).map i64++rest)).toArray:=by
   apply Array.ext_getElem?;intro k;simp only[Sort.putCells,Array.getElem?_mapIdx,List.getElem?_toArray,List.size_toArray];rcases Nat.lt_or_ge k off with c|c;·grind
   ·obtain⟨j,rfl⟩:∃j,k=off+j:=⟨k-off,ae⟩;rcases Nat.lt_or_ge j xs.length with c2|c2
    ·have h3:j<(Sp.sort xs).length:=by rw[Sp.kC];exact c2
     grind
    ·have:¬(off≤off+j∧off+j<off+(Sp.sort xs).length):=by rw[Sp.kC];omega
     have h2:(pre++((Sp.sort xs).map i64++rest))[off+j]? =rest[j-xs.length]? :=by rw[←List.append_assoc,List.getElem?_append_right eV];congr 1;rw[List.length_append,List.length_map,Sp.kC];omega
     grind
  have hset:Sat ρ (au b (pre++((Sp.sort xs).map i64++rest))::R) (Sort.putRow (Value.int .i64) (Sort.ahead w n) b off (Sp.sort xs).toArray):=by
   obtain⟨⟨h,⟨h1,h2,hd,rfl,⟨t',ha⟩,hl⟩,hh⟩,h3⟩:=g6;have ht:t'=t:=by have:=(hh b _ (by rw[ha];simp;rfl)).1;grind
   subst ht;refine Sat.imp (fun _ h=>⟨t',h⟩) (Sat.set ⟨⟨_,⟨h1,h2,hd,rfl,ha,hl⟩,hh⟩,h3⟩ fun c=>?_);show((Sort.ahead w n).heap.modify b (Sort.onCells _))[c]? =_;rw[Array.getElem?_modify];by_cases hc:b=c;·subst hc;simp only[if_true,Sort.ahead,hb,Option.map_some,Sort.onCells,fB]
   ·simp only[hc,if_false,if_neg (Ne.symm hc),Sort.ahead]
  have hfin:Sat ρ (au b (pre++((Sp.sort xs).map i64++rest))::R) (Sort.grow (Sort.putRow (Value.int .i64) (Sort.ahead w n) b off (Sp.sort xs).toArray) os):=by refine Sat.later (w:=Sort.putRow _ (Sort.ahead w n) b _ (Sp.sort _).toArray) (fun c o h=>?_) ⟨rfl,rfl,rfl⟩ hset;show((Sort.putRow (Value.int .i64) (Sort.ahead w n) b off (Sp.sort xs).toArray).heap++os)[c]? =some o;grind
  exact Sat.imp (fun h hh=> .inr ⟨b,off,pre,rest,g1,g2,by rw[List.length_map,Sp.kC];simpa using g3,g4,g5,hh⟩) hfin
theorem Jn(m:Nat):AnyZI.SortsIn Zp Tryz.qv Fence.wide m:=
 ⟨fun au off cap ss W hH hblk hsz=>callsIn_wide.2 (AnyM.slices_Sort_int Tryz.xz au off cap ss W hH hblk hsz),
  fun p cap W=>callsIn_wide.2 (AnyM.slices_Sort_int_none Tryz.xz p cap W)⟩
abbrev xj:FuncId:=336
theorem D0(b:Nat):Gl.Spec ρ Zp 333 [.map (some b)] [] (.one (.l .any))
  fun r M=>∃B,r= .func (.func xj) #[] #[pA B]∧M=[au B [.map (some b)]]:=by intro R w hw;apply (callsIn_wide.1 (AnyZI.keys_in Tryz.wB _ 5 trivial rfl _ w)).mono;rintro e w' ⟨rfl,rfl⟩;refine⟨.func _ #[] #[pA w.heap.size],_,rfl,⟨w.heap.size,rfl,rfl⟩,?_⟩;exact Sat.zZ hw
theorem Ab{α:Type}(b B:Nat)(f:α→Value)(l:List (Int×α))(hk:∀x∈l,0≤x.1∧x.1<2^40)(hl:l.length≤2^20):Gl.Spec ρ Zp 332 [.func (.func xj) #[] #[pA B]] [au B [.map (some b)],IM b f l] (.one (.l .slice))
  fun r M=>r.n=l.length∧M=[aw r 1 ((Sp.sort (l.map (·.1))).map i64),IM b f l]:=by
 intro R w hw;obtain⟨tB,hB⟩:=hw.cl;have hBlt:=(Array.getElem?_eq_some_iff.1 hB).1;have hw2:Sat ρ (IM b f l::R) w:=hw.drop;obtain⟨es,clock,he,hs⟩:=hw2.im;have hb:=hs.pt;let Rr:Value→Option (DataW Unit×List MemPlace):=fun _=>some (.nil,[]);have hlen:es.length=l.length:=by have:=congrArg List.length he.kv;simpa using this
 have hkt:Tryz.prog.underlying 3=some (.int .i64):=by kernel_rfl
 have hrd:∀x∈es,∃y∈l,x.key= .int .i64 y.1:=fun x hx=>by have:=List.mem_map_of_mem (f:=fun e:MapEntry=>(e.key,e.val)) hx;rw[he.kv,List.mem_map]at this;grind
 have hwf:∀y∈l,(Lit.int .i64 y.1).wf=true:=fun y hy=>by have:=hk y hy;simp[Lit.wf,IntKind.min,IntKind.max,IntKind.signed,IntKind.bits];omega
 have hrdx:∀x∈es,∀y:Int×α,y∈l→x.key= .int .i64 y.1→WideElems.rd Zp 3 Rr x=some (.int .i64 y.1,.nil):=fun x hx y hy hxy=>by unfold WideElems.rd;rw[hxy,Maps.keyOf_int_mk hkt (hwf y hy)];rfl
 have hown:w.ownsMap Zp 3 Rr b es.length (.map ((es.map (WideElems.rg Zp 3 Rr)).foldr DataW.insert [])):=by
  refine⟨es.toArray,clock,hb,⟨by show es.length≤2^63-1;omega,⟨by simpa using he.rj,by simpa using he.Lo,?_⟩,?_⟩,bu,bu⟩
  ·have e1:es.map (·.key)=l.map fun x=>Value.int .i64 x.1:=by have:=congrArg (List.map Prod.fst) he.kv;simpa[Function.comp_def]using this
   have e2:l.map (fun x=>Value.int .i64 x.1)=(l.map (·.1)).map (Value.int .i64):=by simp
   rw[e1,e2];exact List.Pairwise.map _ (fun a b hne h=>hne (by injection h)) he.keys
  grind
 have hperm:(intKeys (.map ((es.map (WideElems.rg Zp 3 Rr)).foldr DataW.insert []):DataW Unit)).Perm (l.map (·.1)):=by
  have h1:(intKeys (.map _:DataW Unit)).Perm ((es.map (WideElems.rg Zp 3 Rr)).map fun p=>Go.intOf p.1):=(WideShapes.sorted_perm _).map _;have h2:(es.map (WideElems.rg Zp 3 Rr)).map (fun p=>Go.intOf p.1)=l.map (·.1):=by
   have h3:(es.map (WideElems.rg Zp 3 Rr)).map (fun p=>Go.intOf p.1)=(es.map fun e=>(e.key,e.val)).map (fun p=>RowKit.intOf p.1):=by simp only[List.map_map];apply List.map_congr_left;intro x hx;obtain⟨y,hy,hxy⟩:=hrd x hx;simp only[Function.comp,WideElems.rg,hrdx x hx y hy hxy,hxy];rfl
   rw[h3,he.kv];simp[RowKit.intOf]
  rw[h2]at h1;exact h1
 have hsize:Maps.size (.map ((es.map (WideElems.rg Zp 3 Rr)).foldr DataW.insert []):DataW Unit)=l.length:=by have:=hperm.length_eq;simp only[intKeys,List.length_map]at this;exact this
 have hseq:SeqGives Fence.wide 2 Zp xj #[pA B] encZ (fun ss=>ss.Perm (intKeys (.map ((es.map (WideElems.rg Zp 3 Rr)).foldr DataW.insert []):DataW Unit))) (Maps.size (.map ((es.map (WideElems.rg Zp 3 Rr)).foldr DataW.insert []):DataW Unit)) w:=
  AnyZI.keys_gives (ρ:=Tryz.pv) {Tryz.wB with} Fence.wide _ trivial rfl (by omega) B b es.length _ w hBlt (cell_of hB rfl) hown;have cS:=AnyZI.sorted_in Tryz.EM Fence.wide 5 trivial trivial trivial trivial rfl ae (Jn _) (enters_of Tryz.func196 (by kernel_rfl) rfl) xj #[pA B] trivial (enters_of Tryz.func336 (by kernel_rfl) rfl) _ _ (by rw[hsize];show l.length≤2^63-1;omega) (by omega) w hseq;apply (callsIn_wide.1 cS).mono;rintro e w' ⟨v,ss,rfl,hS,hrow,hnil,hbl⟩;have hp:=hS.trans hperm;have hsort:ss.mergeSort (fun x y=>decide _)=Sp.sort _:=Sp.oY hp;have hssl:ss.length=l.length:=by have:=hp.length_eq;simpa using this
 rw[hsort]at hrow;rcases hrow.2 with ⟨rfl,hz⟩|⟨g,cap,cur,rfl,hg,hgb,r1,r2,r3,r4⟩
 ·refine⟨(⟨none,0,0⟩:av),_,rfl,⟨by rw[←hssl,hz],rfl⟩,?_⟩;have hl0:l=[]:=List.eq_nil_of_length_eq_zero ae;subst hl0;have:=Sat.below hbl hw2;obtain⟨⟨h0,hl',hh⟩,h3⟩:=this;have e0:Sp.sort (([]:List (Int×α)).map (·.1))=[]:=by simp[Sp.sort]
  rw[e0];exact⟨⟨h0,⟨fun _=>none,h0,fun _=> .inl rfl,bu,aw.nil 1 _ (fun _=>rfl),hl'⟩,hh⟩,h3⟩
 ·refine⟨(⟨oA g,ss.length,cap⟩:av),_,rfl,⟨hssl,rfl⟩,?_⟩;refine Sat.imp (A:=Gl.pt g (.cells _ 3 _)) (fun h hh=> .inr ⟨g,0,[],cur.toList.drop ss.length,rfl,rfl,?_,?_,r1,?_⟩) (Sat.fresh hbl hg hgb hw2);·simp[Sp.kC,hssl]
  ·simp[r3]
  ·rw[Nat.mul_one]at r4;refine⟨3,?_⟩;have:([]:List Value)++((Sp.sort (l.map (·.1))).map i64++cur.toList.drop ss.length)=cur.toList:=by rw[List.nil_append,←r4,List.take_append_drop]
   simp_all
end
section
open Go Go.Gl
variable{ρ0 ρ:FR}{L L':List aD}{Post:Value→List aD→Prop}{T:Tree}
def w5(x:Int×vx):aD:=dk x.2.1 x.2.2.2 (Sp.sz x.2.2.1)
theorem jJ{l1 l2:List (Int×vx)}(i:Int){q c:Nat}{l:List Bool}(h:HP)(H:star [dk q l (Sp.sz c),star ((l1++l2).map w5)] h):star ((l1++(i,q,c,l)::l2).map w5) h:=
 dR (P:=w5) (x:=(i,q,c,l)) h H
structure Mu where
 pa:Nat
 pp:Nat
 ms:Nat
 ml:Nat
 ls:List (Int×vx)
 ll:List (Int×Nat)
def aP(p:Nat)(S:aJ):aD:=fun h=>∃i:Mu,(eO S.pg i.ls∧fj S.pg i.ll)∧
 star [au p [pA i.pa,pA i.pp,.map (some i.ms),.map (some i.ml)],cW i.pa S.ws,eK i.pp (S.pg.map Pg.taken),IM i.ms fS i.ls,IM i.ml fL i.ll,star (i.ls.map w5)] h
theorem aP.op{p:Nat}{S:aJ}(t:Take L (aP p S) L') (h:∀(pa pp ms ml:Nat) (ls:List (Int×vx)) (ll:List (Int×Nat)),eO S.pg ls→fj S.pg ll→(ls.map (·.1)).Nodup→(ll.map (·.1)).Nodup→
  Tr ρ0 ρ (au p [pA pa,pA pp,.map (some ms),.map (some ml)]::cW pa S.ws::eK pp (S.pg.map Pg.taken)::IM ms fS ls::IM ml fL ll::star (ls.map w5)::L') T Post):Tr ρ0 ρ L T Post:=
 Tr.iW (M:=fun i:Mu=>[au p [pA i.pa,pA i.pp,.map (some i.ms),.map (some i.ml)],cW i.pa S.ws,eK i.pp (S.pg.map Pg.taken),IM i.ms fS i.ls,IM i.ml fL i.ll,star (i.ls.map w5)]) t (fun _ h=>h)
  fun i hi=>Tr.keys (b:=i.ms) (f:=fS) (l:=i.ls) tk fun n1=>Tr.keys (b:=i.ml) (f:=fL) (l:=i.ll) tk fun n2=>h i.pa i.pp i.ms i.ml i.ls i.ll hi.1 hi.2 n1 n2
theorem aP.cl{p pa pp ms ml:Nat}{S:aJ}{ls:List (Int×vx)}{ll:List (Int×Nat)}(h1:eO S.pg ls)(h2:fj S.pg ll)(h:HP)
  (H:star [au p [pA pa,pA pp,.map (some ms),.map (some ml)],cW pa S.ws,eK pp (S.pg.map Pg.taken),IM ms fS ls,IM ml fL ll,star (ls.map w5)] h):aP p S h:=⟨⟨pa,pp,ms,ml,ls,ll⟩,⟨h1,h2⟩,H⟩
abbrev Mz:TypeId:=256
abbrev MG:TypeId:=257
theorem JR:Tryz.prog.underlying Mz=some (.map 3 260):=by kernel_rfl
theorem Lt:Tryz.prog.underlying MG=some (.map 3 3):=by kernel_rfl
theorem uI:Tryz.prog.underlying 3=some (.int .i64):=by kernel_rfl
theorem LU:(Tryz.prog.info? 260).bind (·.zero)=some (LK.ptr.val none):=by kernel_rfl
theorem zI:(Tryz.prog.info? 3).bind (·.zero)=some ((LK.int .i64).val (0:Int)):=by kernel_rfl
def gS(x:vx):LT .ptr:=oA x.1
def gL(k:Nat):LT kI:=(k:Int)
theorem KM(x:vx):fS x=LK.ptr.val (gS x):=rfl
theorem Lr(k:Nat):fL k=(LK.int .i64).val (gL k):=rfl
def Sp.ch(n:Nat):aJ:=⟨List.replicate (n*64) 0,.res::List.replicate (n-1) .free⟩
theorem Sp.DV{n:Nat}(h0:1≤n)(h1:n≤256):Wf (Sp.ch n):=by
 have hg:∀i:Nat,(Sp.ch n).pg[i]? =if i=0 then some .res else if i<n then some .free else none:=by intro i;unfold Sp.ch;grind
 refine⟨by simp[Sp.ch];omega,by simp[Sp.ch];omega,by simp[Sp.ch],?_,?_,?_,?_⟩;·grind
 ·grind
 ·grind
 grind
theorem Dp(n:Int)(h0:1≤n)(h1:n≤256):Gl.Spec ρ Zp 155 [i64 n] [] PE
  fun r M=>∃b,r=(oA b,0,())∧M=[aP b (Sp.ch n.toNat)]:=by
 refine So (F.space.gB.calls n) fun R=>ai (Dg n h0 h1) ar ?_;rintro x M ⟨pa,rfl,rfl⟩;refine bF<|ai (Dx n h0 h1) ar ?_;rintro x M ⟨pp,rfl,rfl⟩;refine ak rfl (sU fS fun ms=>sU fL fun ml=>aq fun b=>?_);have e:true::List.replicate (n.toNat-1) false=(Sp.ch n.toNat).pg.map Pg.taken:=by simp[Sp.ch,Pg.taken]
 rw[e];refine Tr.none<|Tr.close ar (aP.cl (S:=Sp.ch _) ?_ ?_) ?_;·intro i c l;simp only[List.not_mem_nil,exists_false,false_iff,not_and];intro _ h;unfold Sp.ch at h;grind
 ·intro i k;simp only[List.not_mem_nil,false_iff,not_and];intro _ h;unfold Sp.ch at h;grind
 exact rT ⟨b,rfl,rfl⟩
theorem AQ(n:Int)(h:¬(1≤n∧n≤256)):Gl.Spec ρ Zp 155 [i64 n] [] PE fun r M=>r=(none,1,())∧M=[]:=by exact So (F.space.gB.calls n) fun R=>cE (A8 n h)<|bT<|rT
theorem F8(n:Nat):Int.tdiv (n:Int) 64=((n/64:Nat):Int):=rfl
theorem EK(n:Nat):Int.tmod (n:Int) 64=((n%64:Nat):Int):=rfl
theorem JI(n k:Nat):Int.tdiv (n:Int) (k:Int)=((n/k:Nat):Int):=rfl
abbrev P3:RK:= .many [.l kI,.l kI,.l .bool]
def Sp.found:Option (Nat×Nat)→RT P3
 |some (s,w)=>((s:Int),(w:Int),true,())|none=>((0:Int),(0:Int),false,())
theorem nC(p:Nat)(S:aJ)(hw:Wf S)(a:Int):Gl.Spec ρ Zp 142 [pA p,i64 a] [aP p S] P3
  fun r M=>r=Sp.found (Sp.find S a)∧M=[aP p S]:=by
 have hlen:=hw.len;have hmost:=hw.fF;refine So (F.space.aV.Find.calls _ a) fun R=>?_;unfold F.space.aV.Find;try simp only[c8,c9]
 refine ak rfl (ag (fun h=>?_) (fun h=>?_));·replace h:=oT h;rw[Sp.iH ae];exact rT
 ·replace h:=oF h;obtain⟨n,rfl⟩:∃n:Nat,a=n:=⟨a.toNat,ae⟩;refine af (aP.op tk fun pa pp ms ml ls ll hS hL nS nL=>?_);refine iL<|cE (rq _ _) ?_;try simp only[c8,c9]
  refine ag (fun h2=>?_) (fun h2=>?_);·replace h2:=oT h2;rw[Sp.iH ae];refine tC (aP.cl (p:=p) (pa:=pa) (pp:=pp) (ms:=ms) (ml:=ml) hS hL) ?_;exact rT
  ·replace h2:=oF h2;have hn:n<S.ws.length:=by omega
   have hp:n/64<S.pg.length:=by omega
   refine bm bd (af ?_);refine iL ?_;rw[F8,bG (n:=((n/64:Nat):Int))];apply qN (kd:= .ptr) (g:=gS) (z0:=none) JR uI LU KM tk;by_cases hsm:∃c l,S.pg[n/64]? =some (.small c l)
   ·obtain⟨c,l,hsm⟩:=hsm;obtain⟨hc,hll⟩:=hw.small _ _ _ hsm;obtain⟨q,hq⟩:=hS.get nS hsm;rw[hq,Sp.gn hn hsm];obtain⟨l1,l2,rfl,_,_⟩:=lD hq;refine bg rfl (bm bd ?_);refine Tr.HA (P:=w5) tk<|ai (iB q l (Sp.sz c)) (aI.cons .here .nil) ?_;rintro x M ⟨rfl,rfl⟩;try simp only[c8,c9]
    have hz:=Sp.eH hc;refine bm ae (af ?_);refine dk.op tk fun b=>iL ?_;have hm:n%64/Sp.sz c*Sp.sz c≤n%64:=Nat.div_mul_le_self _ _;have hd2:n%64/Sp.sz c≤n%64:=Nat.div_le_self _ _;rw[EK,JI];generalize n%64/Sp.sz c=d at hm hd2⊢;rw[bG (n:=(d:Int))];apply cE (qY b l d);try simp only[c8,c9]
    refine Tr.close (M:=[au q [pA b,i64 (Sp.sz c)],cq b l]) ar (dk.cl (p:=q)) ?_;have hh:Sp.has l (d:Int)=l.getD d false:=by simp[Sp.has]
    rw[hh];refine ag (fun h3=>?_) (fun h3=>?_);·rw[if_neg (by simpa using h3)];refine Tr.close (M:=[dk q l (Sp.sz c),star ((l1++l2).map w5)]) ar (jJ ((n/64:Nat):Int) (q:=q) (c:=c) (l:=l))<|tC (aP.cl (p:=p) (pa:=pa) (pp:=pp) (ms:=ms) (ml:=ml) hS hL) ?_;exact rT
    ·rw[if_pos (by simpa using h3)];apply cE (iB q l _);try simp only[c8,c9]
     apply cE (iB q l _);try simp only[c8,c9]
     refine Tr.close (M:=[dk q l (Sp.sz c),star ((l1++l2).map w5)]) ar (jJ ((n/64:Nat):Int) (q:=q) (c:=c) (l:=l))<|tC (aP.cl (p:=p) (pa:=pa) (pp:=pp) (ms:=ms) (ml:=ml) hS hL) ?_;have e1:(d:Int)*(Sp.sz c:Int)=((d*Sp.sz c:Nat):Int):=by simp
     rw[e1];generalize d*Sp.sz c=dd at hm⊢;rw[wrap64 (n:=(dd:Int)) ae ae,wrap64 (n:=((n/64:Nat):Int)*64) ae ae,bG];refine ax (x:=Sp.found (some (n/64*64+dd,Sp.sz c))) ?_ ⟨rfl,rfl⟩ ar bE;rfl
   ·have hns:∀c l,S.pg[n/64]? ≠some _:=fun c l h=>hsm ⟨c,l,h⟩;rw[hS.none hns,Sp.fb hn hns];refine ak rfl (af ?_);refine iL ?_;refine A6 Lt tk fun r=>?_;refine aM (fun m _ M=>∃rem cur,m=rem.length∧M=MI ml r fL ll rem cur::cW pa S.ws::au p [pA pa,pA pp,.map (some ms),.map (some ml)]::eK pp (S.pg.map Pg.taken)::IM ms fS ls::star (ls.map w5)::R∧
      (∀x∈rem,x∈ll)∧∀x∈ll,x∈rem∨¬(x.1≤((n/64:Nat):Int)∧((n/64:Nat):Int)<x.1+(x.2:Int))) ll.length ?_ ?_;·grind
    ·rintro m ⟨⟩ M ⟨rem,cur,rfl,rfl,hsub,hrem⟩ X hX;refine Ak (kv:=kI) (g:=gL) Lr .here (fun h0=>?_) (fun k v r1 r2 hr=>?_)
     ·subst h0;have hno:Sp.own S.pg (n/64)=none:=by refine Sp.uZ fun j k hj hjk=>?_;have:=hrem _ ((hL j k).mpr ⟨ae,by simpa using hj⟩);grind
      rw[hno];refine MI.over .here<|tC (aP.cl (p:=p) (pa:=pa) (pp:=pp) (ms:=ms) (ml:=ml) hS hL) ?_;exact rT
     ·apply Bo (kv:=kI) (g:=gL) Lr .here;have hkv:(k,v)∈ll:=hsub _ (by rw[hr];simp);obtain⟨hk0,hkp⟩:=(hL k v).mp hkv;obtain⟨j,rfl⟩:∃j:Nat,k=j:=⟨k.toNat,ae⟩;rw[Int.toNat_natCast]at hkp;have next:¬((j:Int)≤((n/64:Nat):Int)∧((n/64:Nat):Int)<(j:Int)+(v:Int))→(∀x∈r1++r2,x∈ll)∧∀x∈ll,x∈r1++r2∨¬(x.1≤((n/64:Nat):Int)∧((n/64:Nat):Int)<x.1+(x.2:Int)):=by grind
      obtain⟨v1,v2,v3,_⟩:=hw.head _ _ hkp;have w1:IntKind.wrap .i64 ((j:Int)+gL v)=(j:Int)+(v:Int):=wrap64 (by unfold gL;omega) (by unfold gL;omega);dsimp only;rw[w1];refine ag (fun h1=>?_) (fun h1=>?_)
      ·replace h1:=oT h1;refine ag (fun h2=>?_) (fun h2=>?_);·replace h2:=oT h2;have ho:Sp.own S.pg (n/64)=some (j,v):=Sp.ov hw hkp ⟨by omega,by omega⟩;rw[ho];refine MI.over .here<|tC (aP.cl (p:=p) (pa:=pa) (pp:=pp) (ms:=ms) (ml:=ml) hS hL) ?_;have w2:IntKind.wrap .i64 _=j*64:=bG;have w3:IntKind.wrap .i64 (gL v*64)=(v:Int)*64:=wrap64 (by unfold gL;omega) (by unfold gL;omega);rw[w2,w3];refine ax (x:=Sp.found (some (j*64,v*64))) ?_ ⟨rfl,rfl⟩ ar bE;rfl
       ·replace h2:=oF h2;exact hX (r1++r2).length _ _ (by rw[hr];simp) ⟨r1++r2,_,rfl,rfl,next (by omega)⟩
      ·replace h1:=oF h1;exact hX (r1++r2).length _ _ (by rw[hr];simp) ⟨r1++r2,_,rfl,rfl,next (by omega)⟩
def Pg.LN:Pg→Bool| .small _ _=>true|_=>false
def Sp.eN(pg:List Pg):List Nat:=(List.range pg.length).filter fun p=>(pg.getD p .free).LN
theorem Sp.jz{pg:List Pg}{p:Nat}:p∈Sp.eN pg↔∃c l,pg[p]? =some (.small c l):=by
 unfold Sp.eN;rw[List.mem_filter,List.mem_range];constructor
 ·rintro⟨h1,h2⟩;rw[List.getD_eq_getElem?_getD,List.getElem?_eq_getElem h1]at h2;rw[List.getElem?_eq_getElem h1];revert h2;generalize pg[p]=x;intro h2;cases x with
  |small c l=>exact⟨c,l,rfl⟩
  |_=>cases h2
 ·rintro⟨c,l,h⟩;exact⟨cf h,by rw[List.getD_eq_getElem?_getD,h];rfl⟩
theorem Sp.lK(pg:List Pg):(Sp.eN pg).Pairwise (·<·):=List.Pairwise.filter _ List.pairwise_lt_range
theorem keys_perm{pg:List Pg}{ls:List (Int×vx)}(hS:eO pg ls)(nS:(ls.map (·.1)).Nodup):(ls.map (·.1)).Perm ((Sp.eN pg).map fun p:Nat=>(p:Int)):=by
 rw[List.perm_ext_iff_of_nodup nS]
 ·intro i;rw[List.mem_map,List.mem_map];constructor;·rintro⟨⟨i',q,c,l⟩,h1,rfl⟩;obtain⟨h0,h2⟩:=(hS i' c l).mp ⟨q,h1⟩;exact⟨i'.toNat,Sp.jz.mpr ⟨c,l,h2⟩,bq⟩
  ·rintro⟨p,hp,rfl⟩;obtain⟨c,l,h⟩:=Sp.jz.mp hp;obtain⟨q,hq⟩:=(hS p c l).mpr ⟨ae,by simpa using h⟩;exact⟨_,hq,rfl⟩
 ·exact List.Pairwise.map _ (fun a b h=>by omega) (Sp.lK pg)
theorem zT{pg:List Pg}{ls:List (Int×vx)}(hS:eO pg ls)(nS:(ls.map (·.1)).Nodup):Sp.sort (ls.map (·.1))=(Sp.eN pg).map fun p:Nat=>(p:Int):=by rw[Sp.oY (keys_perm hS nS)];exact Sp.te (List.Pairwise.map _ (fun a b h=>by omega) (Sp.lK pg))
theorem Gx{pg:List Pg}{ls:List (Int×vx)}(hS:eO pg ls)(nS:(ls.map (·.1)).Nodup):ls.length=(Sp.eN pg).length∧ls.length≤pg.length:=by have h:=(keys_perm hS nS).length_eq;simp only[List.length_map]at h;refine⟨h,?_⟩;rw[h,Sp.eN];grind
def Sp.kD(pg:List Pg)(c:Nat)(p:Nat):Bool:=match pg[p]? with |some (Pg.small c' l)=>c'==c&& !decide (l.count true=l.length)|_=>false
theorem Sp.EW(pg:List Pg)(c:Nat):Sp.jY pg c=(Sp.eN pg).find? (Sp.kD pg c):=by
 show _=((List.range pg.length).filter fun p=>(pg.getD p .free).LN).find? (Sp.kD pg c);rw[List.find?_filter];unfold Sp.jY;congr 1;funext p;change Sp.kD pg c p=_;cases h:Sp.kD pg c p with
 |false=>simp
 |true=>
  have:(pg[p]?.getD .free).LN=true:=by
   unfold Sp.kD at h;split at h;·rename_i c' l hp;rw[hp];rfl
   ·cases h
  simp[this]
theorem Km{c c':Nat}(h:c<5)(h':c'<5)(e:Sp.sz c=Sp.sz c'):c=c':=by have h1:=Sp.eH h;have h2:=Sp.eH h';omega
theorem AE(p:Nat)(S:aJ)(hw:Wf S)(c:Nat)(hc:c<5):Gl.Spec ρ Zp 329 [pA p,i64 c] [aP p S] IB
  fun r M=>r=(match Sp.jY S.pg c with |some i=>((i:Int),true,())|none=>((0:Int),false,()))∧M=[aP p S]:=by
 have hmost:=hw.fF;refine So (F.space.aV.open.calls _ c) fun R=>ai (nx) ar ?_;rintro s M ⟨hs,rfl⟩;refine bD tk ae (by omega) fun a0 ha=>cw (j:=c) ha tk fX (getD_map (by show _<5;omega)) ?_;rw[Sp.pG hc];refine af (aP.op tk fun pa pp ms ml ls ll hS hL nS nL=>?_);refine iL<|ai (D0 _) ar ?_;rintro x M ⟨B,rfl,rfl⟩;have hkl:=Gx hS nS;refine ai (Ab _ B _ ls (fun x hx=>?_) ae) ar ?_;·obtain⟨i,q,c',l⟩:=x;obtain⟨h0,h1⟩:=(hS i c' l).mp ⟨q,hx⟩;grind
 rintro r M ⟨hr,rfl⟩;rw[zT hS nS];refine Tr.cL tk fun ρ' hle hro=>?_;have hrn:r.n=(Sp.eN S.pg).length:=by rw[hr,hkl.1]
 refine tC (aP.cl hS hL) ?_;refine aM (fun n u M=>(fun j:Int=>M=aP p S::aw s 1 (Sp.lU.map i64)::R∧
   0≤j∧j≤(Sp.eN S.pg).length∧n=(Sp.eN S.pg).length-j.toNat∧Sp.jY S.pg c=((Sp.eN S.pg).drop j.toNat).find? (Sp.kD S.pg c)) u.1) (Sp.eN S.pg).length ?_ ?_;·exact⟨rfl,bu,bu,bu,by simpa using Sp.EW _ c⟩
 ·rintro n ⟨(j:Int),⟨⟩⟩ M ⟨rfl,h0,h1,rfl,hf⟩ X hX;refine ag (fun h=>?_) (fun h=>?_)
  ·replace h:j<(r.n:Int):=oT h;rw[hrn]at h;have hj:j.toNat<(Sp.eN S.pg).length:=by omega
   rw[hE 0 hj]at hf;obtain⟨k,hk⟩:∃k,(Sp.eN S.pg).getD j.toNat 0=k:=⟨_,rfl⟩;rw[hk]at hf;have hkm:k∈Sp.eN S.pg:=by grind
   obtain⟨c',l,hpg⟩:=Sp.jz.mp hkm;obtain⟨hc',hll⟩:=hw.small _ _ _ hpg;refine bz hro h0 (by rw[hrn];exact h) fun a0 ha=>cu (j:=j.toNat) (x:=(k:Int)) ha hro fX ?_ ?_;·rw[List.getD_eq_getElem?_getD,List.getElem?_eq_getElem hj]at hk;simp only[Option.getD_some]at hk;rw[List.getElem?_map,List.getElem?_map,List.getElem?_eq_getElem hj,hk];rfl
   refine af (aP.op tk fun pa pp ms ml ls ll hS hL nS nL=>?_);refine iL<|qP JR uI LU KM tk ?_;obtain⟨q,hq⟩:=hS.get nS hpg;rw[hq];obtain⟨l1,l2,hl12,_,_⟩:=lD hq;subst hl12;refine Tr.HA tk ?_;refine ai (iB q l (Sp.sz c')) (aI.cons .here .nil) ?_;rintro x M ⟨rfl,rfl⟩;have hz':=Sp.eH hc';have hl32:l.length≤32:=by grind
   rw[List.find?_cons]at hf;have hQ:Sp.kD S.pg c k=(c'==c&& !decide (l.count true=l.length)):=by unfold Sp.kD;rw[hpg]
   rw[hQ]at hf;have w1:IntKind.wrap .i64 _=j+1:=bG;refine ag (fun h2=>?_) (fun h2=>?_)
   ·replace h2:(Sp.sz c':Int)=Sp.sz c:=by simpa using h2
    have hcc:=Km hc' hc ae;refine ai (A9 q l _ hl32) (aI.cons .here .nil) ?_;rintro x M ⟨rfl,rfl⟩;refine Tr.close ar (jJ k)<|ag (fun h3=>?_) (fun h3=>?_);·rw[h3,hcc]at hf;simp only[beq_self_eq_true,Bool.not_false,Bool.and_self]at hf;rw[hf];refine tC (aP.cl hS hL) ?_;exact rT
    ·rw[h3]at hf;simp only[Bool.not_true,Bool.and_false]at hf;rw[w1];exact tC (aP.cl hS hL)<|hX _ _ _ ae ⟨rfl,bq,bq,rfl,by rw[hf,show(j+1).toNat=j.toNat+1 by omega]⟩
   ·have hcc:(c'==c)=false:=by grind
    rw[hcc]at hf;simp only[Bool.false_and]at hf;rw[w1];exact Tr.close ar (jJ k)<|tC (aP.cl hS hL)<|hX _ _ _ ae ⟨rfl,bq,bq,rfl,by rw[hf,show(j+1).toNat=j.toNat+1 by omega]⟩
  ·replace h:¬j<(r.n:Int):=oF h;rw[List.drop_eq_nil_of_le ae]at hf;rw[hf];exact rT
theorem Sp.vb{pg:List Pg}{c p:Nat}(h:Sp.jY pg c=some p):∃l,pg[p]? =some (.small c l)∧l.count true≠l.length:=by have:=List.find?_some h;grind
theorem pU{a b:List Bool}(hl:a.length=b.length)(h:∀j,j<a.length→a.getD j false=b.getD j false):a=b:=by apply List.ext_getElem hl;grind
theorem fz{pg:List Pg}{j:Nat}:(pg.map Pg.taken).getD j false=(pg.getD j .free).taken:=by rw[List.getD_eq_getElem?_getD,List.getD_eq_getElem?_getD,List.getElem?_map];cases pg[j]? <;>rfl
theorem lq{pg:List Pg}{k i:Nat}(h:Sp.run (pg.map Pg.taken) k=some i):i+k≤pg.length∧∀j:Nat,i≤j→j<i+k→pg[j]? =some .free:=by
 obtain⟨h1,h2,_⟩:=Sp.Em h;rw[List.length_map]at h1;refine⟨h1,fun j g1 g2=>?_⟩;have:=Sp.jI.mp h2 j g1 g2;rw[fz,List.getD_eq_getElem?_getD]at this;have hj:j<pg.length:=by omega
 rw[List.getElem?_eq_getElem hj]at this⊢;revert this;generalize pg[j]=x;cases x<;>simp[Pg.taken]
theorem rA{pg:List Pg}{i:Nat}{x:Pg}(hi:i<pg.length):(pg.set i x).map Pg.taken=Sp.sK (pg.map Pg.taken) x.taken i 1:=by
 apply pU;·rw[Sp.q8];simp
 ·intro j hj;rw[Sp.qI (by simpa using hj),fz,fz];grind
theorem dL{pg:List Pg}{i k j:Nat}:(Sp.kF pg i k)[j]? =if j<pg.length then some (if j=i then Pg.head k else if i<j∧j<i+k then .tail else pg.getD j .free)else none:=by unfold Sp.kF;grind
theorem dO{pg:List Pg}{i k j:Nat}:(Sp.gX pg i k)[j]? =if j<pg.length then some (if i≤j∧j<i+k then Pg.free else pg.getD j .free)else none:=by unfold Sp.gX;grind
theorem jR{pg:List Pg}{i k:Nat}:(Sp.kF pg i k).length=pg.length:=by simp[Sp.kF]
theorem gZ{pg:List Pg}{i k:Nat}:(Sp.gX pg i k).length=pg.length:=by simp[Sp.gX]
theorem mV{pg:List Pg}{j:Nat}{x:Pg}(h:pg[j]? =some x):pg.getD j .free=x:=by grind
theorem xD{pg:List Pg}{j:Nat}(h:j<pg.length):pg[j]? =some (pg.getD j .free):=by grind
theorem Bb{pg:List Pg}{i k:Nat}(hk:1≤k):(Sp.kF pg i k).map Pg.taken=Sp.sK (pg.map Pg.taken) true i k:=by
 apply pU;·rw[Sp.q8];simp[Sp.kF]
 ·intro j hj;have hj:j<pg.length:=by simpa[Sp.kF]using hj
  rw[Sp.qI (by simpa using hj),fz,fz];rw[List.getD_eq_getElem?_getD,dL,if_pos hj];by_cases h1:j=i;·subst h1;rw[if_pos rfl,if_pos ⟨ae,ae⟩];rfl
  ·rw[if_neg h1];by_cases h2:i<j∧j<i+k;·rw[if_pos h2,if_pos ⟨ae,ae⟩];rfl
   grind
theorem yN{pg:List Pg}{i k:Nat}:(Sp.gX pg i k).map Pg.taken=Sp.sK (pg.map Pg.taken) false i k:=by
 apply pU;·rw[Sp.q8];simp[Sp.gX]
 ·intro j hj;have hj:j<pg.length:=by simpa[Sp.gX]using hj
  rw[Sp.qI (by simpa using hj),fz,fz];rw[List.getD_eq_getElem?_getD,dO,if_pos hj];by_cases h2:i≤j∧j<i+k;·rw[if_pos h2,if_pos h2];rfl
  grind
theorem k8{pg:List Pg}{i:Nat}{x:Pg}(h0:∀k,pg[i]? ≠some (.head k))(h1:∀k,x≠.head k)(j:Nat)(k:Nat):pg[j]? =some (.head k)↔(pg.set i x)[j]? =some (.head k):=by grind
theorem zU(p:Nat)(S:aJ)(hw:Wf S)(c:Nat)(hc:c<5):Gl.Spec ρ Zp 323 [pA p,i64 c] [aP p S] P2
  fun r M=>(∃i,Sp.jY S.pg c=some i∧r=((i:Int),(0:Int),())∧M=[aP p S])∨
   (∃i,Sp.jY S.pg c=none∧Sp.run (S.pg.map Pg.taken) 1=some i∧r=((i:Int),(0:Int),())∧M=[aP p ⟨S.ws,S.pg.set i (.small c (List.replicate (64/Sp.sz c) false))⟩])∨
   (Sp.jY S.pg c=none∧Sp.run (S.pg.map Pg.taken) 1=none∧r=((0:Int),(3:Int),())∧M=[aP p S]):=by
 have hmost:=hw.fF;refine So (F.space.aV.first.calls _ c) fun R=>cE (AE p S hw c hc) ?_;cases ho:Sp.jY S.pg c with
 |some i=>exact bT<|rT (.inl ⟨i,rfl,rfl,rfl⟩)
 |none=>
  refine ak rfl (af (aP.op tk fun pa pp ms ml ls ll hS hL nS nL=>?_));refine iL<|ai (uc _ (S.pg.map _) 1 ae ae (by simpa using hmost)) ar ?_;rintro x M (⟨hr,rfl,rfl⟩|⟨i,hr,rfl,rfl⟩);·refine bT<|tC (aP.cl hS hL) ?_;exact rT (.inr (.inr ⟨by first |rfl|trivial,hr,rfl,rfl⟩))
  ·obtain⟨hi,hfree⟩:=lq hr;have hfi:=hfree i ae ae;refine bF<|ai (CX c hc) ar ?_;rintro x M ⟨q,rfl,rfl⟩;refine ak rfl (af ?_);refine iL<|ri (f:=fS) (a:=((q,c,List.replicate (64/Sp.sz c) false):vx)) JR uI rfl tk ?_;have hnone:=hS.none fun c' l' h=>by rw[hfi]at h;cases h
   have hset:=hS.set nS (p:=i) (c:=c) (q:=q) (l:=List.replicate (64/Sp.sz c) false) ae;rw[yY hnone]at hset⊢;refine Tr.imp (A:=star _) (A':=star ((ls++([]:List _)).map w5)) tk bu<|Tr.close ar (jJ i) ?_;rw[show Sp.sK (S.pg.map Pg.taken) true i 1=(S.pg.set i (.small c (List.replicate (64/Sp.sz c) false))).map Pg.taken from(rA (x:= .small c (List.replicate (64/Sp.sz c) false)) ae).symm];have hL':fj (S.pg.set i (.small c (List.replicate (64/Sp.sz c) false))) ll:=hL.same (k8 (fun k h=>by rw[hfi]at h;cases h) (fun k h=>by cases h));refine tC (aP.cl (S:=⟨S.ws,S.pg.set i _⟩) hset hL') ?_;exact rT (.inr (.inl ⟨i,by first |rfl|trivial,hr,rfl,rfl⟩))
theorem zr{pg pg':List Pg}{i k:Nat}(hfree:∀j:Nat,i≤j→j<i+k→pg[j]? =some .free)(h1:∀j:Nat,¬(i≤j∧j<i+k)→pg'[j]? =pg[j]?)(h2:∀(j:Nat) c l,i≤j→j<i+k→pg'[j]? ≠some (.small c l))(j:Nat)(c:Nat)(l:List Bool):
  pg[j]? =some (.small c l)↔pg'[j]? =some (.small c l):=by grind
theorem jd{pg:List Pg}{i k j:Nat}(hk:1≤k)(hj:¬(i≤j∧j<i+k)):(Sp.kF pg i k)[j]? =pg[j]? :=by rw[dL];grind
theorem g8{pg:List Pg}{i k j:Nat}(hj:¬(i≤j∧j<i+k)):(Sp.gX pg i k)[j]? =pg[j]? :=by rw[dO];grind
theorem jf{l:List Bool}(h:l.count true≠l.length):∃k:Nat,Sp.next l 0 false=k∧k<l.length∧l.getD k false=false:=by
 rcases Sp.jy l false 0 with ⟨g1,g2⟩|⟨k,g1,g2,g3,g4,g5⟩;·exfalso;apply h;rw[List.count_eq_length];intro b hb;obtain⟨j,hj,e⟩:=List.getElem_of_mem hb;grind
 grind
theorem tR{n:Nat}(h:0<n):∃k:Nat,Sp.next (List.replicate n false) 0 false=k∧k<(List.replicate n false).length∧(List.replicate n false).getD k false=false:=by apply jf;grind
theorem Sp.sR{w:Int}(hb:Sp.au w≠0)(hc:Sp.cls w<0):1≤Sp.pj w∧Sp.pj w≤16∧Sp.au w=Sp.pj w*64:=by have h:=hb;unfold Sp.au at h⊢;rw[if_neg ae]at h⊢;have:Sp.pj w≠0:=fun e=>h (by rw[e];rfl);unfold Sp.pj at this⊢;omega
theorem yp(p:Nat)(S:aJ)(hw:Wf S)(w:Int)(hb:Sp.au w≠0):Gl.Spec ρ Zp 306 [pA p,i64 w] [aP p S] P2
  fun r M=>r=((Sp.place S.pg w).1,(Sp.place S.pg w).2.1,())∧M=[aP p ⟨S.ws,(Sp.place S.pg w).2.2⟩]:=by
 have hmost:=hw.fF;refine So (F.space.aV.place.calls _ w) fun R=>?_;unfold F.space.aV.place;refine cE (pM w)<|ag (fun h=>?_) (fun h=>?_)
 ·replace h:Sp.cls w<0:=oT h;obtain⟨k1,k2,_⟩:=Sp.sR hb h;apply cE (uK w);obtain⟨k,hk⟩:∃k:Nat,Sp.pj w=k:=⟨(Sp.pj w).toNat,ae⟩;have hpl:Sp.place S.pg w=(match Sp.run (S.pg.map Pg.taken) k with |some p=>(((p*64:Nat):Int),0,Sp.kF S.pg p k)|none=>(0,3,S.pg)):=by unfold Sp.place;grind
  rw[hk];refine af (aP.op tk fun pa pp ms ml ls ll hS hL nS nL=>?_);refine iL<|ai (uc _ (S.pg.map _) k ae ae (by simpa using hmost)) ar ?_;rintro x M (⟨hr,rfl,rfl⟩|⟨i,hr,rfl,rfl⟩)
  ·try simp only[c8,c9]
   rw[hr]at hpl;rw[hpl];refine bT<|tC (aP.cl (p:=p) (pa:=pa) (pp:=pp) (ms:=ms) (ml:=ml) (S:=⟨S.ws,S.pg⟩) hS hL) ?_;exact rT
  ·try simp only[c8,c9]
   rw[hr]at hpl;dsimp only at hpl;rw[hpl];obtain⟨hi,hfree⟩:=lq hr;refine ak rfl (af ?_);refine iL<|ri (f:=fL) (a:=k) Lt uI rfl tk ?_;have hS':eO (Sp.kF S.pg i k) ls:=hS.same (zr hfree (fun j hj=>jd (by omega) hj) (fun j c l g1 g2 h=>by rw[dL]at h;grind));have hL':fj (Sp.kF S.pg i k) (lf (i:Int) k ll):=hL.set nL (by rw[dL,if_pos ae,if_pos rfl]) (fun j k' hj=>by
    by_cases hjr:i≤j∧j<i+k;·rw[hfree j hjr.1 hjr.2,dL,if_pos ae,if_neg hj,if_pos ⟨ae,ae⟩];simp
    ·rw[jd ae hjr]);rw[←Bb ae];refine tC (aP.cl (S:=⟨S.ws,Sp.kF _ i k⟩) hS' hL') ?_;rw[bG];refine ax (x:=(((i*64:Nat):Int),(0:Int),())) ?_ ⟨rfl,rfl⟩ ar bE;rfl
 ·replace h:¬Sp.cls w<0:=oF h;have hcc:=Sp.kX w;obtain⟨c,hc⟩:∃c:Nat,Sp.cls w=c:=⟨(Sp.cls w).toNat,ae⟩;have hc5:c<5:=by omega
  have hz:=Sp.eH hc5;rw[hc];refine ai (zU p S hw c hc5) ar ?_;intro x M hx;have key:(x=((0:Int),(3:Int),())∧M=[aP p S]∧Sp.place S.pg w=(0,3,S.pg))∨
    ∃(i:Nat) (l:List Bool) (S1:aJ) (k:Nat),x=((i:Int),(0:Int),())∧M=[aP p S1]∧S1.pg[i]? =some (.small c l)∧S1.ws=S.ws∧i<S.pg.length∧l.length≤32∧l.length=64/Sp.sz c∧Sp.next l 0 false=k∧k<l.length∧
     S1.pg.length=S.pg.length∧(∀y,S1.pg.set i y=S.pg.set i y)∧Sp.place S.pg w=Sp.cO S.pg i c l:=by
   have h32:64/Sp.sz c≤32∧0<64/Sp.sz c:=by grind
   have hpl:Sp.place S.pg w=(match Sp.jY S.pg c with
    |some p=>Sp.cO S.pg p c (Sp.blocks S.pg p)
    |none=>(match Sp.run (S.pg.map Pg.taken) 1 with
     |some p=>Sp.cO S.pg p c (List.replicate (64/Sp.sz c) false)
     |none=>(0,3,S.pg))):=by unfold Sp.place;(rw[if_neg h,hc,Int.toNat_natCast]<;>rfl)
   rcases hx with ⟨i,ho,rfl,rfl⟩|⟨i,ho,hr,rfl,rfl⟩|⟨ho,hr,rfl,rfl⟩;·obtain⟨l,hp,hcnt⟩:=Sp.vb ho;obtain⟨k,g1,g2,_⟩:=jf hcnt;have hll:=(hw.small _ _ _ hp).2;refine .inr ⟨i,l,S,k,rfl,rfl,hp,rfl,cf hp,ae,hll,g1,g2,rfl,fun _=>rfl,?_⟩;rw[hpl,ho];dsimp only;congr 1;unfold Sp.blocks;rw[hp]
   ·obtain⟨hi,_⟩:=lq hr;obtain⟨k,g1,g2,_⟩:=tR (n:=64/Sp.sz c) h32.2;refine .inr ⟨i,List.replicate _ false,_,k,rfl,rfl,?_,rfl,ae,by simpa using h32.1,bu,g1,g2,bu,fun y=>by simp,?_⟩;·grind
    ·rw[hpl,ho,hr]
   grind
  rcases key with ⟨rfl,rfl,hpl⟩|⟨i,l,S1,k,rfl,rfl,hp,hws,hi,hl32,hll,g1,g2,hsl,hset,hpl⟩
  ·try simp only[c8,c9]
   rw[hpl];exact bT<|rT
  ·try simp only[c8,c9]
   rw[hpl];refine ak rfl (af (aP.op tk fun pa pp ms ml ls ll hS hL nS nL=>?_));refine iL<|qP (kd:= .ptr) (g:=gS) (z0:=none) JR uI LU KM tk ?_;obtain⟨q,hq⟩:=hS.get nS hp;rw[hq];have hS2:=hS.set nS (p:=i) (c:=c) (q:=q) (l:=l.set k true) (cf hp);obtain⟨l1,l2,hl12,has,_⟩:=lD hq;rw[has]at hS2;subst hl12;refine Tr.HA (P:=w5) tk<|ai (AW q l (Sp.sz c) hl32) (aI.cons .here .nil) ?_;rintro x M (⟨e1,_⟩|⟨k',e1,e2,rfl,rfl⟩);·rw[g1]at e1;omega
   have hkk:k'=k:=by rw[g1]at e1;omega
   subst hkk;refine ak rfl (af ?_);refine Tr.close (M:=[dk q (l.set k' true) (Sp.sz c),star ((l1++l2).map w5)]) ar (jJ (i:Int) (q:=q) (c:=c) (l:=l.set k' true))<|Tr.imp (A':=IM _ fS (l1++((i:Int),q,c,l.set k' true)::l2)) tk (IM.ghost (by simp[fS]))<|iL<|Tr.keys (b:=ms) (f:=fS) (l:=l1++((i:Int),q,c,l.set k' true)::l2) tk fun nS2=>qP (kd:= .ptr) (g:=gS) (z0:=none) (l:=l1++((i:Int),q,c,l.set k' true)::l2) JR uI LU KM tk ?_;have hq2:iy i (l1++(_,q,c,l.set k' true)::l2)=some (q,c,l.set k' true):=(qC nS2).mpr bu;rw[hq2];refine Tr.HA (P:=w5) tk<|ai (iB q (l.set _ _) (Sp.sz c)) (aI.cons .here .nil) ?_;rintro x M ⟨rfl,rfl⟩;refine Tr.close (M:=[dk q (l.set k' true) (Sp.sz c),star ((l1++l2).map w5)]) ar (jJ (i:Int) (q:=q) (c:=c) (l:=l.set k' true)) ?_;have hL2:fj (S1.pg.set i (.small c (l.set k' true))) ll:=hL.same (k8 (fun k h=>by rw[hp]at h;cases h) (fun k h=>by cases h));rw[hset]at hS2 hL2;have htk:S1.pg.map Pg.taken=(S.pg.set i (.small c (l.set k' true))).map Pg.taken:=by
    rw[←hset];apply List.ext_getElem?;intro j;rw[List.getElem?_map,List.getElem?_map,List.getElem?_set];by_cases hij:i=j;·subst hij;rw[hp,if_pos rfl,if_pos (cf hp)];rfl
    ·rw[if_neg hij]
   rw[htk,hws];have epl:(Sp.cO S.pg i c l).2.2=S.pg.set i (.small c (l.set k' true)):=by unfold Sp.cO;simp_all
   rw[epl];refine tC (aP.cl (S:=⟨S.ws,S.pg.set i _⟩) hS2 hL2) ?_;have e1:(k':Int)*(Sp.sz c:Int)=((k'*Sp.sz c:Nat):Int):=by simp
   have hb64:k'*Sp.sz c<64:=by grind
   rw[e1];have epl1:(Sp.cO S.pg i c l).1=((i*64+k'*Sp.sz c:Nat):Int):=by unfold Sp.cO;grind
   generalize k'*Sp.sz c=dd at hb64 epl1⊢;rw[wrap64 (n:=(dd:Int)) (by omega) (by omega),wrap64 (n:=(i:Int)*64) (by omega) (by omega),wrap64 (by omega) (by omega)];refine ax (x:=(((i*64+dd:Nat):Int),(0:Int),())) ?_ ⟨?_,rfl⟩ ar bE;·rfl
   ·rw[epl1];rfl
end
end Go.Proofs.YtjginndmmlkjiaaGreat
