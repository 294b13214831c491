/- SL Op. -/
import Derived.Test.YtfepdmpplahloaaGreatGsSnd6
set_option linter.unusedSimpArgs false
set_option linter.unusedVariables false
namespace Go.Gl
open Go
abbrev HP:=Nat→Option Obj
abbrev aA:=HP→Prop
def emp:aA:=fun h=>∀b,h b=none
def sep(A B:aA):aA:=fun h=>∃h1 h2,(∀b,h1 b=none∨h2 b=none)∧h=(fun b=>(h1 b).or (h2 b))∧A h1∧B h2
def star:List aA→aA
 |[]=>emp|A::L=>sep A (star L)
theorem kA{A B:aA}{h:HP}(H:sep A B h):sep B A h:=by
 obtain⟨h1,h2,hd,rfl,ha,hb⟩:=H
 refine⟨h2,h1,fun b=>(hd b).symm,?_,hb,ha⟩
 funext b
 rcases hd b with h|h<;>simp[h]
theorem kL{A B C:aA}{h:HP}(H:sep A (sep B C) h):sep (sep A B) C h:=by
 obtain⟨h1,h23,hd,rfl,ha,h2,h3,hd2,rfl,hb,hc⟩:=H
 have d12:∀b,h1 b=none∨h2 b=none:=fun b=>by
  rcases hd b with h|h
  ·exact .inl h
  ·right;cases hh:h2 b<;>simp_all
 have d13:∀b,h1 b=none∨h3 b=none:=fun b=>by
  rcases hd b with h|h
  ·exact .inl h
  ·right;cases hh:h3 b<;>simp_all
 refine⟨fun b=>(h1 b).or (h2 b),h3,fun b=> ?_,?_,⟨h1,h2,d12,rfl,ha,hb⟩,hc⟩
 ·rcases d13 b with h|h
  ·rcases hd2 b with h'|h'
   ·left;simp[h,h']
   ·exact .inr h'
  ·exact .inr h
 ·funext b;exact Option.or_assoc.symm
theorem dV{A A' B B':aA}(ha:∀h,A h→A' h)(hb:∀h,B h→B' h){h:HP}(H:sep A B h):sep A' B' h:=by
 obtain⟨h1,h2,hd,rfl,h3,h4⟩:=H
 exact⟨h1,h2,hd,rfl,ha _ h3,hb _ h4⟩
theorem lN{A B C:aA}{h:HP}(H:sep (sep A B) C h):sep A (sep B C) h:=
 kA (dV (fun _=>kA) (fun _ h=>h) (kL (dV (fun _ h=>h) (fun _=>kA) (kA H))))
theorem Ad{A B C:aA}{h:HP}(H:sep A (sep B C) h):sep B (sep A C) h:=
 lN (dV (fun _=>kA) (fun _ h=>h) (kL H))
theorem na{L L':List aA}(p:L.Perm L'):∀{h:HP},star L h→star L' h:=by
 induction p with
 |nil=>exact fun H=>H
 |cons x _ ih=>exact fun H=>dV (fun _ h=>h) (fun _=>ih) H
 |swap x y l=>exact fun H=>Ad H
 |trans _ _ ih1 ih2=>exact fun H=>ih2 (ih1 H)
theorem jV{L L':List aA}{h:HP}(H:star (L++L') h):sep (star L) (star L') h:=by
 induction L generalizing h with
 |nil=>
  exact⟨fun _=>none,h,fun b=> .inl rfl,by funext b;simp,fun _=>rfl,H⟩
 |cons A L ih=>exact kL (dV (fun _ h=>h) (fun _=>ih) H)
theorem dL{L L':List aA}{h:HP}(H:sep (star L) (star L') h):star (L++L') h:=by
 induction L generalizing h with
 |nil=>
  obtain⟨h1,h2,hd,rfl,he,h4⟩:=H
  have:(fun b=>(h1 b).or (h2 b))=h2:=by funext b;rw[he b];simp
  rw[this];exact h4
 |cons A L ih=>exact dV (fun _ h=>h) (fun _=>ih) (lN H)
structure FR where
 m:Nat→Option Obj
 z:World
instance:CoeFun FR (fun _=>Nat→Option Obj):=⟨FR.m⟩
def Sm(w w':World):Prop:=w'.os=w.os∧w'.tape=w.tape∧w'.output=w.output
theorem Sm.trans{w w' w'':World}(h:Sm w w')(h':Sm w' w''):Sm w w'':=⟨h'.1.trans h.1,h'.2.1.trans h.2.1,h'.2.2.trans h.2.2⟩
structure Fx(ρ:FR)(w:World):Prop where
 mem:∀b o,ρ b=some o→w.heap[b]? =some o
 same:Sm ρ.z w
instance {ρ:FR} {w:World}:CoeFun (Fx ρ w) (fun _=>∀b o,ρ b=some o→w.heap[b]? =some o):=⟨Fx.mem⟩
def Sat(ρ:FR)(L:List aA)(w:World):Prop:=
 (∃h,star L h∧∀b o,h b=some o→w.heap[b]? =some o∧ρ b=none)∧Fx ρ w
theorem Sat.perm{ρ:FR}{L L':List aA}{w:World}(p:L.Perm L')(H:Sat ρ L w):Sat ρ L' w:=by
 obtain⟨⟨h,h1,h2⟩,h3⟩:=H
 exact⟨⟨h,na p h1,h2⟩,h3⟩
theorem Sat.drop{ρ:FR}{A:aA}{L:List aA}{w:World}(H:Sat ρ (A::L) w):Sat ρ L w:=by
 obtain⟨⟨h,⟨h1,h2,hd,rfl,ha,hl⟩,hw⟩,h3⟩:=H
 refine⟨⟨h2,hl,fun b o hb=>hw b o ?_⟩,h3⟩
 rcases hd b with h|h
 ·simp[h,hb]
 ·rw[h]at hb;cases hb
theorem Sat.ug{ρ:FR}{L L':List aA}{w:World}(H:Sat ρ (L++L') w):Sat ρ L' w:=by
 induction L with
 |nil=>exact H
 |cons A L ih=>exact ih H.drop
theorem Sat.imp{ρ:FR}{A A':aA}{L:List aA}{w:World}(h:∀h,A h→A' h)(H:Sat ρ (A::L) w):Sat ρ (A'::L) w:=by
 obtain⟨⟨h,h1,h2⟩,h3⟩:=H
 exact⟨⟨h,dV ‹_› (fun _ h=>h) h1,h2⟩,h3⟩
theorem Sat.vv{ρ:FR}{M L:List aA}{w:World}(H:Sat ρ (star M::L) w):Sat ρ (M++L) w:=by
 obtain⟨⟨h,h1,h2⟩,h3⟩:=H
 exact⟨⟨h,dL h1,h2⟩,h3⟩
theorem Sat.uK{ρ:FR}{M L:List aA}{w:World}(H:Sat ρ (M++L) w):Sat ρ (star M::L) w:=by
 obtain⟨⟨h,h1,h2⟩,h3⟩:=H
 exact⟨⟨h,jV h1,h2⟩,h3⟩
theorem Sat.drawn{ρ:FR}{L:List aA}{w:World}{n:Nat}(H:Sat ρ L w):Sat ρ L {w with drawn:=n}:=⟨H.1,⟨H.2.mem,H.2.same⟩⟩
theorem Sat.heap{ρ:FR}{L:List aA}{w w':World}(h:w'.heap=w.heap)(hs:Sm w w')(H:Sat ρ L w):Sat ρ L w':=by
 obtain⟨⟨h0,hl,hh⟩,h3⟩:=H
 exact⟨⟨h0,hl,fun b o hb=>by rw[h];exact hh b o hb⟩,⟨fun b o hb=>by rw[h];exact h3.mem b o hb,h3.same.trans hs⟩⟩
def pt(b:Nat)(o:Obj):aA:=fun h=>h=fun c=>if c=b then some o else none
def aw(b:Nat)(cs:List Value):aA:=fun h=>∃t,pt b (.cells cs.toArray t (0,0)) h
def mp(b:Nat)(es:Array MapEntry)(clock:Nat):aA:=pt b (.map es clock)
theorem Sat.pt{ρ:FR}{b:Nat}{o:Obj}{L:List aA}{w:World}(H:Sat ρ (pt b o::L) w):w.heap[b]? =some o:=by
 obtain⟨⟨h,⟨h1,h2,hd,rfl,ha,hl⟩,hw⟩,h3⟩:=H
 have:h1 b=some o:=by rw[ha];simp
 exact(hw b o (by simp[this])).1
theorem Sat.cl{ρ:FR}{b:Nat}{cs:List Value}{L:List aA}{w:World}(H:Sat ρ (aw b cs::L) w):∃t,w.heap[b]? =some (.cells cs.toArray t (0,0)):=by
 obtain⟨⟨h,⟨h1,h2,hd,rfl,⟨t,ha⟩,hl⟩,hw⟩,h3⟩:=H
 have:h1 b=some (.cells cs.toArray t (0,0)):=by rw[ha];simp
 exact⟨t,(hw b _ (by simp[this])).1⟩
theorem Sat.set{ρ:FR}{b:Nat}{o o':Obj}{L:List aA}{w w':World}(H:Sat ρ (Gl.pt b o::L) w)(hw:∀c,w'.heap[c]? =if c=b then some o' else w.heap[c]?)(hs:Sm w w':=by exact⟨rfl,rfl,rfl⟩):Sat ρ (Gl.pt b o'::L) w':=by
 obtain⟨⟨h,⟨h1,h2,hd,rfl,ha,hl⟩,hh⟩,h3⟩:=H
 have hb1:h1 b=some o:=by rw[ha];simp
 have hr:ρ b=none:=(hh b o (by simp[hb1])).2
 refine⟨⟨fun c=>((fun c=>if c=b then some o' else none) c).or (h2 c),⟨_,h2,fun c=> ?_,rfl,rfl,hl⟩,fun c u hu=> ?_⟩,⟨fun c u hu=> ?_,h3.same.trans hs⟩⟩
 ·by_cases hc:c=b
  ·subst hc;right
   rcases hd c with h|h
   ·rw[hb1]at h;cases h
   ·exact h
  ·left;simp[hc]
 ·by_cases hc:c=b
  ·subst hc
   simp at hu;subst hu
   exact⟨by simp[hw],hr⟩
  ·simp[hc]at hu
   have h1c:h1 c=none:=by rw[ha];simp[hc]
   have:=hh c u (by simp[h1c,hu])
   exact⟨by simp[hw,hc,this.1],this.2⟩
 ·have:c≠b:=by rintro rfl;rw[hr]at hu;cases hu
  simp[hw,this,h3 c u hu]
theorem Sat.new{ρ:FR}{o:Obj}{L:List aA}{w:World}(H:Sat ρ L w):Sat ρ (Gl.pt w.heap.size o::L) (w.alloc o):=by
 obtain⟨⟨h,hl,hh⟩,h3⟩:=H
 have lt:∀b u,w.heap[b]? =some u→b<w.heap.size:=fun b u hb=>by
  rcases Nat.lt_or_ge b w.heap.size with h|h
  ·exact h
  ·simp[Array.getElem?_eq_none h]at hb
 have lT:∀b u,w.heap[b]? =some u→(w.alloc o).heap[b]? =some u:=fun b u hb=>by
  have:=lt b u hb
  show(w.heap.push o)[b]? =some u
  rw[Array.getElem?_push,if_neg (by omega)];exact hb
 have hr:ρ w.heap.size=none:=by
  cases hρ:ρ w.heap.size with
  |none=>rfl
  |some u=>have:=lt _ _ (h3 _ _ hρ);omega
 refine⟨⟨fun c=>((fun c=>if c=w.heap.size then some o else none) c).or (h c),⟨_,h,fun c=> ?_,rfl,rfl,hl⟩,fun c u hu=> ?_⟩,⟨fun c u hu=>lT c u (h3 c u hu),h3.same⟩⟩
 ·by_cases hc:c=w.heap.size
  ·subst hc;right
   cases hx:h w.heap.size with
   |none=>rfl
   |some u=>have:=lt _ _ (hh _ _ hx).1;omega
  ·left;simp[hc]
 ·by_cases hc:c=w.heap.size
  ·subst hc;simp at hu;subst hu
   exact⟨show(w.heap.push o)[w.heap.size]? =some o by simp,hr⟩
  ·simp[hc]at hu
   exact⟨lT c u (hh c u hu).1,(hh c u hu).2⟩
theorem Sat.ta{ρ:FR}{t:TypeId}{cs:List Value}{L:List aA}{w:World}(H:Sat ρ L w):Sat ρ (aw w.heap.size cs::L) (w.alloc (.cells cs.toArray t)):=
 Sat.imp (fun _ h=>⟨t,h⟩) (Sat.new H)
def Qp(ρ:FR)(Post:Value→List aA→Prop):Value→World→Prop:=fun v w=>∃L,Post v L∧Sat ρ L w
structure Le(ρ ρ':FR):Prop where
 m:∀b o,ρ b=some o→ρ' b=some o
 z:ρ'.z=ρ.z
instance {ρ ρ':FR}:CoeFun (Le ρ ρ') (fun _=>∀b o,ρ b=some o→ρ' b=some o):=⟨Le.m⟩
theorem Le.refl(ρ:FR):Le ρ ρ:=⟨fun _ _ h=>h,rfl⟩
theorem Le.trans{ρ ρ' ρ'':FR}(h:Le ρ ρ')(h':Le ρ' ρ''):Le ρ ρ'':=⟨fun b o hb=>h' b o (h b o hb),h'.z.trans h.z⟩
def Tr(ρ0 ρ:FR)(L:List aA)(T:Tree)(Post:Value→List aA→Prop):Prop:=Le ρ0 ρ→∀w,Sat ρ L w→T (Qp ρ0 Post) w
def Spec(ρ:FR)(P:Program)(f:FuncId)(args:List Value)(A:List aA)(r:RK)(B:RT r→List aA→Prop):Prop:=
 ∀R w,Sat ρ (A++R) w→Calls P f args.toArray w fun e w'=>∃x L,e= .returned (r.val x)∧B x L∧Sat ρ (L++R) w'
inductive Take:List aA→aA→List aA→Prop
 |here {A:aA} {L:List aA}:Take (A::L) A L
 |skip {A B:aA} {L L':List aA} (h:Take L A L'):Take (B::L) A (B::L')
theorem Take.perm{L L':List aA}{A:aA}(h:Take L A L'):L.Perm (A::L'):=by
 induction h with
 |here=>exact .refl _
 |skip _ ih=>exact(List.Perm.cons _ ih).trans (List.Perm.swap _ _ _)
inductive aI:List aA→List aA→List aA→Prop
 |nil {L:List aA}:aI L [] L
 |cons {L L' R:List aA} {A:aA} {M:List aA} (h:Take L A L') (hs:aI L' M R):aI L (A::M) R
theorem aI.perm{L M R:List aA}(h:aI L M R):L.Perm (M++R):=by
 induction h with
 |nil=>exact .refl _
 |cons h _ ih=>exact h.perm.trans (.cons _ ih)
theorem aI.app:∀(A R:List aA),aI (A++R) A R
 |[],_=> .nil
 |_::A,R=> .cons .here (aI.app A R)
variable{ρ0 ρ:FR}{L L':List aA}{Post:Value→List aA→Prop}
theorem Tr.perm{T:Tree}(p:L.Perm L')(h:Tr ρ0 ρ L' T Post):Tr ρ0 ρ L T Post:=fun hle w hw=>h hle w (hw.perm p)
theorem Tr.take{T:Tree}{A:aA}(t:Take L A L')(h:Tr ρ0 ρ (A::L') T Post):Tr ρ0 ρ L T Post:=Tr.perm t.perm h
theorem Tr.drop{T:Tree}{A:aA}(t:Take L A L')(h:Tr ρ0 ρ L' T Post):Tr ρ0 ρ L T Post:=Tr.perm t.perm fun hle w hw=>h hle w hw.drop
theorem Tr.imp{T:Tree}{A A':aA}(t:Take L A L')(hA:∀h,A h→A' h)(h:Tr ρ0 ρ (A'::L') T Post):Tr ρ0 ρ L T Post:=
 Tr.take t fun hle w hw=>h hle w (hw.imp hA)
theorem Tr.gh{T:Tree}{A:aA}{ι:Type}{M:ι→List aA}{c:ι→Prop}(t:Take L A L')(hA:∀h,A h→∃i,c i∧star (M i) h)(h:∀i,c i→Tr ρ0 ρ (M i++L') T Post):Tr ρ0 ρ L T Post:=by
 refine Tr.take t fun hle w hw=> ?_
 obtain⟨⟨h0,⟨h1,h2,hd,rfl,ha,hl⟩,hh⟩,h3⟩:=hw
 obtain⟨i,hc,hM⟩:=hA _ ha
 exact h i hc hle w ⟨⟨_,dL ⟨h1,h2,hd,rfl,hM,hl⟩,hh⟩,h3⟩
theorem Tr.close{T:Tree}{A:aA}{M R:List aA}(t:aI L M R)(hA:∀h,star M h→A h)(h:Tr ρ0 ρ (A::R) T Post):Tr ρ0 ρ L T Post:=
 Tr.perm t.perm fun hle w hw=>h hle w (hw.uK.imp hA)
theorem Sat.Dm{ρ ρ':FR}(h:Le ρ ρ'){L:List aA}{w:World}(H:Sat ρ' L w):Sat ρ L w:=by
 obtain⟨⟨h0,hl,hh⟩,h3⟩:=H
 refine⟨⟨h0,hl,fun b o hb=>⟨(hh b o hb).1,?_⟩⟩,⟨fun b o hb=>h3 b o (h b o hb),by have:=h3.same;rw[h.z]at this;exact this⟩⟩
 cases hr:ρ b with
 |none=>rfl
 |some u=>have:=(hh b o hb).2;rw[h b u hr]at this;cases this
theorem aj{b:Bool}{x y:Tree}(hx:b=true→Tr ρ0 ρ L x Post)(hy:b=false→Tr ρ0 ρ L y Post):Tr ρ0 ρ L (br b x y) Post:=fun hle w hw=>⟨fun h=>hx h hle w hw,fun h=>hy h hle w hw⟩
theorem aH{b:Bool}{x y:Tree}(hb:b=true)(hx:Tr ρ0 ρ L x Post):Tr ρ0 ρ L (br b x y) Post:=by
 subst hb;exact fun hle w hw=>⟨fun _=>hx hle w hw,nofun⟩
theorem ak{b:Bool}{x y:Tree}(hb:b=false)(hy:Tr ρ0 ρ L y Post):Tr ρ0 ρ L (br b x y) Post:=by
 subst hb;exact fun hle w hw=>⟨nofun,fun _=>hy hle w hw⟩
theorem ah{a:Addr}{k:Addr→Tree}(h:Tr ρ0 ρ L (k a) Post):Tr ρ0 ρ L (nn (some a) k) Post:=fun hle w hw=>⟨a,rfl,h hle w hw⟩
theorem bu{c:Prop}{k:Tree}(hc:c)(h:Tr ρ0 ρ L k Post):Tr ρ0 ρ L (bQ c k) Post:=fun hle w hw=>⟨hc,h hle w hw⟩
theorem iO{b:Addr}{n:Nat}{i:Int}{size:Nat}{k:Addr→Tree}(h0:0≤i)(h1:i<n)(h:Tr ρ0 ρ L (k (fa b (i.toNat*size))) Post):Tr ρ0 ρ L (ix (some b) n i size k) Post:=
 fun hle w hw=>⟨b,rfl,h0,h1,h hle w hw⟩
theorem aK{T:Tree}(h:Tr ρ0 ρ L T Post):Tr ρ0 ρ L (dI T) Post:=fun hle w hw=>h hle _ hw.drawn
theorem fb{x y:Tree}(hx:Tr ρ0 ρ L x Post)(hy:Tr ρ0 ρ L y Post):Tr ρ0 ρ L (both x y) Post:=fun hle w hw=>⟨hx hle w hw,hy hle w hw⟩
theorem dR{a:Option Addr}{c:Nat}{l h:Int}{size:Nat}{k:ay→Tree}(h0:0≤l)(h1:l≤h)(h2:h≤c)
  (hk:Tr ρ0 ρ L (k ⟨if c=l.toNat then a else a.map fun b=>fa b (l.toNat*size),h.toNat-l.toNat,c-l.toNat⟩) Post):Tr ρ0 ρ L (sS a c l h size k) Post:=fun hle w hw=>⟨h0,h1,h2,hk hle w hw⟩
theorem aR{k:(World→Prop)→Tree}(M:List aA){R:List aA}(t:aI L M R)(h:Tr ρ0 ρ L (k (Sat ρ M)) Post):Tr ρ0 ρ L (held k) Post:=fun hle w hw=>
 ⟨Sat ρ M,((hw.perm t.perm).perm List.perm_append_comm).ug,h hle w hw⟩
theorem aN{M R:List aA}{T:Tree}(t:aI L M R)(h:Tr ρ0 ρ L T Post):Tr ρ0 ρ L (fX (Sat ρ M) T) Post:=fun hle w hw=>
 ⟨((hw.perm t.perm).perm List.perm_append_comm).ug,h hle w hw⟩
theorem iw{S:World→Prop}{k:(World→Prop)→Tree}(M:List aA){R:List aA}(t:aI L M R)(hs:∀w,Sat ρ M w→S w)(h:Tr ρ0 ρ L (k (Sat ρ M)) Post):Tr ρ0 ρ L (narrow S k) Post:=fun hle w hw=>
 ⟨Sat ρ M,hs,((hw.perm t.perm).perm List.perm_append_comm).ug,h hle w hw⟩
theorem af(b o n:Nat):fa ⟨b,o,none⟩ n=⟨b,o+n,none⟩:=by
 unfold fa;split
 ·rename_i h;subst h;rfl
 ·rfl
theorem cell_of{w:World}{b off:Nat}{cs:Array Value}{t:TypeId}{fr:Nat×Nat}{v:Value}(h:w.heap[b]? =some (.cells cs t fr))(hv:cs[off]? =some v):w.cell? ⟨b,off,none⟩=some v:=by
 simp[World.cell?,h,hv]
theorem ai{k:LK}{a:Addr}{f:LT k→Tree}{b off:Nat}{cs:List Value}{x:LT k}(ha:a=⟨b,off,none⟩)(t:Take L (aw b cs) L')(hv:cs[off]? =some (k.val x))(h:Tr ρ0 ρ L (f x) Post):
  Tr ρ0 ρ L (Bl k a f) Post:=fun hle w hw=>by
 obtain⟨ty,hb⟩:=(hw.perm t.perm).cl
 exact⟨x,by rw[ha];exact cell_of hb (by simpa using hv),h hle w hw⟩
theorem D6{k:LK}{a:Addr}{f:LT k→Tree}{b off:Nat}{cs:Array Value}{ty:TypeId}{fr:Nat×Nat}{x:LT k}(ha:a=⟨b,off,none⟩)(hr:ρ b=some (.cells cs ty fr))(hv:cs[off]? =some (k.val x))(h:Tr ρ0 ρ L (f x) Post):
  Tr ρ0 ρ L (Bl k a f) Post:=fun hle w hw=>⟨x,by rw[ha];exact cell_of (hw.2 _ _ hr) hv,h hle w hw⟩
theorem ar{M:List aA}{k:LK}{a:Addr}{f:LT k→Tree}{b off:Nat}{cs:List Value}{x:LT k}(ha:a=⟨b,off,none⟩)(t:Take M (aw b cs) L')(hv:cs[off]? =some (k.val x))(h:Tr ρ0 ρ L (f x) Post):
  Tr ρ0 ρ L (yw (Sat ρ M) k a f) Post:=fun hle w hw=>by
 refine⟨x,fun w' hw'=> ?_,h hle w hw⟩
 obtain⟨ty,hb⟩:=(hw'.perm t.perm).cl
 rw[ha];exact cell_of hb (by simpa using hv)
theorem rV{M:List aA}{k:LK}{a:Addr}{f:LT k→Tree}{b off:Nat}{cs:Array Value}{ty:TypeId}{fr:Nat×Nat}{x:LT k}(ha:a=⟨b,off,none⟩)(hr:ρ b=some (.cells cs ty fr))(hv:cs[off]? =some (k.val x))(h:Tr ρ0 ρ L (f x) Post):
  Tr ρ0 ρ L (yw (Sat ρ M) k a f) Post:=fun hle w hw=>⟨x,fun w' hw'=>by rw[ha];exact cell_of (hw'.2 _ _ hr) hv,h hle w hw⟩
theorem rP{w:World}{b off:Nat}{cs:Array Value}{t:TypeId}{fr:Nat×Nat}{v:Value}(h:w.heap[b]? =some (.cells cs t fr))(c:Nat):
  (w.setCell ⟨b,off,none⟩ v).heap[c]? =if c=b then some (.cells (cs.setIfInBounds off v) t fr)else w.heap[c]? :=by
 simp only[World.setCell,Array.getElem?_modify]
 by_cases hc:c=b
 ·subst hc;simp[h]
 ·simp[hc,Ne.symm hc]
def bN(cs:List Value)(off:Nat):List Value→List Value
 |[]=>cs|v::vs=>bN (cs.set off v) (off+1) vs
theorem oB{b:Nat}{R:List aA}:∀(vs:List Value) (off i:Nat) (cs:List Value) (w:World),Sat ρ (aw b cs::R) w→Sat ρ (aw b (bN cs (off+i) vs)::R) (yC ⟨b,off,none⟩ i vs w):=by
 intro vs
 induction vs with
 |nil=>intro off i cs w H;exact H
 |cons v vs ih=>
  intro off i cs w H
  simp only[yC,bN,af]
  have:=ih off (i+1) (cs.set (off+i) v) (w.setCell ⟨b,off+i,none⟩ v) ?_
  ·simpa[Nat.add_assoc]using this
  ·obtain⟨t,hb⟩:=H.cl
   obtain⟨⟨h,⟨h1,h2,hd,rfl,⟨t',ha⟩,hl⟩,hh⟩,h3⟩:=H
   have ht:t'=t:=by
    have:=(hh b _ (by rw[ha];simp;rfl)).1
    rw[hb]at this;injection this with h;injection h with _ h;exact h.symm
   subst ht
   refine Sat.imp (fun _ h=>⟨t',h⟩) (Sat.set (o:= .cells cs.toArray t' (0,0)) ⟨⟨_,⟨h1,h2,hd,rfl,ha,hl⟩,hh⟩,h3⟩ fun c=> ?_)
   rw[rP hb]
   simp
theorem aL{a:Addr}{vs:List Value}{k:Tree}{b off:Nat}{cs:List Value}(ha:a=⟨b,off,none⟩)(t:Take L (aw b cs) L')(hl:off+vs.length≤cs.length)(h1:vs.all jX=true)
  (h:Tr ρ0 ρ (aw b (bN cs off vs)::L') k Post):Tr ρ0 ρ L (st a vs k) Post:=fun hle w hw=>by
 subst ha
 have hw':=hw.perm t.perm
 obtain⟨ty,hb⟩:=hw'.cl
 refine⟨fun i hi=> ?_,h1,h hle _ (by simpa using oB vs off 0 cs w hw')⟩
 rw[af]
 have:off+i<cs.length:=by omega
 refine⟨?_,by simp[World.frozen?,hb]⟩
 rw[cell_of hb (v:=cs[off+i]) (by simp[this])];rfl
theorem ax{t:TypeId}{vs:List Value}{k:Nat→Tree}(h:∀b,Tr ρ0 ρ (aw b vs::L) (k b) Post):Tr ρ0 ρ L (nw t vs k) Post:=fun hle w hw=>h _ hle _ hw.ta
theorem Du{k:Nat→Tree}(h:∀b,Tr ρ0 ρ (mp b #[] 0::L) (k b) Post):Tr ρ0 ρ L (Ej k) Post:=fun hle w hw=>h _ hle _ hw.new
theorem ae{P:Program}{f:FuncId}{args:List Value}{r:RK}{k:RT r→Tree}{A R:List aA}{B:RT r→List aA→Prop}(hs:Spec ρ P f args A r B)(t:aI L A R)
  (h:∀x L',B x L'→Tr ρ0 ρ (L'++R) (k x) Post):Tr ρ0 ρ L (call P f args r k) Post:=fun hle w hw=>by
 refine(hs R w (hw.perm t.perm)).mono ?_
 rintro e w' ⟨x,L',rfl,hB,hsat⟩
 exact⟨x,rfl,h x L' hB hle w' hsat⟩
theorem lW{P:Program}{f:FuncId}{fn:Func}{c i:Array Value}{args:List Value}{r:RK}{k:RT r→Tree}{A R:List aA}{B:RT r→List aA→Prop}(hf:P.funcs[f]? =some fn)(hb:fn.body.isSome=true)
  (hs:Spec ρ P f (i.toList++args++c.toList) A r B) (t:aI L A R)
  (h:∀x L',B x L'→Tr ρ0 ρ (L'++R) (k x) Post):Tr ρ0 ρ L (gJ P (.func (.func f) i c) args r k) Post:=fun hle w hw=>by
 refine⟨f,i,c,fn,rfl,hf,hb,?_⟩
 have:=hs R w (hw.perm t.perm)
 rw[show(i.toList++args++c.toList).toArray=i++args.toArray++c by apply Array.ext';simp]at this
 refine this.mono ?_
 rintro e w' ⟨x,L',rfl,hB,hsat⟩
 exact⟨x,rfl,h x L' hB hle w' hsat⟩
theorem iS{P:Program}{f:FuncId}{fn:Func}{c:Array Value}{args:List Value}{r:RK}{k:RT r→Tree}{A R:List aA}{B:RT r→List aA→Prop}(hf:P.funcs[f]? =some fn)(hb:fn.body.isSome=true)
  (hs:Spec ρ P f (args++c.toList) A r B) (t:aI L A R)
  (h:∀x L',B x L'→Tr ρ0 ρ (L'++R) (k x) Post):Tr ρ0 ρ L (gJ P (.func (.func f) #[] c) args r k) Post:=
 lW hf hb (by simpa using hs) t h
theorem od{α:Type}{k:α→Tree}{f:(α→Tree)→Tree}(I:α→List aA→Prop)(hk:∀s M,I s M→Tr ρ0 ρ M (k s) Post)(h:∀X:α→Tree,(∀s M,I s M→Tr ρ0 ρ M (X s) Post)→Tr ρ0 ρ L (f X) Post):Tr ρ0 ρ L (jn k f) Post:=
 h k hk
theorem aP{ks:List LK}{body:(LTs ks→Tree)→LTs ks→Tree}{s0:LTs ks}(I:Nat→LTs ks→List aA→Prop)(n0:Nat)(h0:I n0 s0 L)
  (h:∀n s M,I n s M→∀X:LTs ks→Tree,(∀m s' M',m<n→I m s' M'→Tr ρ0 ρ M' (X s') Post)→Tr ρ0 ρ M (body X s) Post):Tr ρ0 ρ L (lp ks body s0) Post:=fun hle w hw X hX=>by
 have key:∀n s M w,I n s M→Sat ρ M w→X s w:=by
  intro n
  induction n using Nat.strongRecOn with
  |_ n ih=>
   intro s M w hI hM
   refine hX s w (h n s M hI (fun s' _ w'=>X s' w') (fun m s' M' hm hI' _ w' hw'=>ih m hm s' M' w' hI' hw') hle w hM)
 exact key n0 s0 L w h0 hw
theorem gQ{P:Program}{s:Sem Value}{r:RK}{k:RT r→Tree}(C:RT r→List aA→Prop)(hr:∀w,Sat ρ L w→∃x w' M,s.run P w= .ok (r.val x) w'∧C x M∧Sat ρ M w')
  (h:∀x M,C x M→Tr ρ0 ρ M (k x) Post):Tr ρ0 ρ L (c9 P s r k) Post:=fun hle w hw=>by
 obtain⟨x,w',M,h1,h2,h3⟩:=hr w hw
 exact⟨x,w',h1,h x M h2 hle w' h3⟩
theorem Tr.fv{T:Tree}{b:Nat}{cs:List Value}(t:Take L (aw b cs) L')(h:∀ρ':FR,(∃ty,ρ' b=some (.cells cs.toArray ty (0,0)))→Le ρ ρ'→Tr ρ0 ρ' L' T Post):Tr ρ0 ρ L T Post:=fun hle w hw=>by
 have hw':=hw.perm t.perm
 obtain⟨⟨h0,⟨h1,h2,hd,rfl,⟨ty,ha⟩,hl⟩,hh⟩,h3⟩:=hw'
 have hb1:h1 b=some (.cells cs.toArray ty (0,0)):=by rw[ha];simp
 have hr:ρ b=none:=(hh b (.cells cs.toArray ty (0,0)) (by simp[hb1])).2
 have hb2:h2 b=none:=by
  rcases hd b with h|h
  ·rw[hb1]at h;cases h
  ·exact h
 have hle':Le ρ ⟨fun c=>if c=b then some (.cells cs.toArray ty (0,0))else ρ c,ρ.z⟩:=by
  refine⟨fun c o hc=> ?_,rfl⟩
  have:c≠b:=by rintro rfl;rw[hr]at hc;cases hc
  simp[this,hc]
 refine h ⟨fun c=>if c=b then some (.cells cs.toArray ty (0,0))else ρ c,ρ.z⟩ ⟨ty,by simp⟩ hle' (hle.trans hle') w ⟨⟨h2,hl,fun c o hc=> ?_⟩,⟨fun c o hc=> ?_,h3.same⟩⟩
 ·have hcb:c≠b:=by rintro rfl;rw[hb2]at hc;cases hc
  have h1c:h1 c=none:=by rw[ha];simp[hcb]
  have:=hh c o (by simp[h1c,hc])
  exact⟨this.1,by simp[hcb,this.2]⟩
 ·by_cases hcb:c=b
  ·subst hcb;simp at hc;subst hc;exact(hh c (.cells cs.toArray ty (0,0)) (by simp[hb1])).1
  ·simp[hcb]at hc;exact h3 c o hc
inductive Ends:List aA→List aA→Prop
 |refl {L:List aA}:Ends L L
 |skip {A:aA} {L R:List aA} (h:Ends L R):Ends (A::L) R
theorem Ends.app{L R:List aA}(e:Ends L R)(M:List aA){ρ:FR}{w:World}(H:Sat ρ (M++L) w):Sat ρ (M++R) w:=by
 induction e with
 |refl=>exact H
 |skip _ ih=>exact ih (H.perm (List.perm_middle)).drop
def SP(r:RK)(B:RT r→List aA→Prop)(R:List aA):Value→List aA→Prop:=fun v L=>∃x M,v=r.val x∧B x M∧L=M++R
theorem aa{r:RK}{B:RT r→List aA→Prop}{R L2 M:List aA}{v:Value}{x:RT r}(hv:v=r.val x)(hB:B x M)(t:aI L M L2)(e:Ends L2 R):Tr ρ0 ρ L (ret v) (SP r B R):=fun hle w hw=>
 ⟨M++R,⟨x,M,hv,hB,rfl⟩,(e.app M (hw.perm t.perm)).Dm hle⟩
theorem tk{L L':List aA}{A:aA}(h:Take L A L':=by repeat(first |apply Take.here|apply Take.skip)):Take L A L':=h
theorem ag{L M R:List aA}(h:aI L M R:=by repeat(first |apply aI.nil|(apply aI.cons;focus (repeat(first |apply Take.here|apply Take.skip))))):aI L M R:=h
theorem aB{L R:List aA}(h:Ends L R:=by repeat(first |apply Ends.refl|apply Ends.skip)):Ends L R:=h
theorem Spec.of{P:Program}{f:FuncId}{args:List Value}{A:List aA}{r:RK}{B:RT r→List aA→Prop}{T:Tree}
  (hc:∀(Q:Value→World→Prop) (w:World),T Q w→Calls P f args.toArray w fun e w'=>∃v,e= .returned v∧Q v w')
  (h:∀R,Tr ρ ρ (A++R) T (SP r B R)):Spec ρ P f args A r B:=fun R w hw=>by
 refine(hc _ w (h R (Le.refl _) w hw)).mono ?_
 rintro e w' ⟨v,rfl,L,⟨x,M,rfl,hB,rfl⟩,hsat⟩
 exact⟨x,M,rfl,hB,hsat⟩
end Go.Gl
namespace Go.Gl
open Go
def aE(s:ay)(m:Nat)(xs:List Value):aA:=fun h=>
 (s.a=none∧s.n=0∧s.c=0∧xs=[]∧emp h)∨
 ∃b off pre rest,s.a=some ⟨b,off,none⟩∧List.length pre=off∧xs.length=s.n*m∧rest.length=(s.c-s.n)*m∧s.n≤s.c∧aw b (pre++(xs++rest)) h
def eX(ρ:FR)(s:ay)(m:Nat)(xs:List Value):Prop:=
 xs.length=s.n*m∧((s.n=0)∨∃b off cs ty fr,s.a=some ⟨b,off,none⟩∧ρ b=some (.cells cs ty fr)∧∀i,i<xs.length→cs[off+i]? =xs[i]?)
theorem eX.le{ρ ρ':FR}(h:Le ρ ρ'){s:ay}{m:Nat}{xs:List Value}(H:eX ρ s m xs):eX ρ' s m xs:=by
 obtain⟨h1,h2⟩:=H
 refine⟨h1,h2.imp id ?_⟩
 rintro⟨b,off,cs,ty,fr,g1,g2,g3⟩
 exact⟨b,off,cs,ty,fr,g1,h _ _ g2,g3⟩
variable{ρ0 ρ:FR}{L L':List aA}{Post:Value→List aA→Prop}
theorem Sat.sl{s:ay}{m:Nat}{xs:List Value}{w:World}(H:Sat ρ (aE s m xs::L) w):
  (s.a=none∧s.n=0∧s.c=0∧xs=[]∧Sat ρ L w)∨
  ∃b off pre rest,s.a=some ⟨b,off,none⟩∧List.length pre=off∧xs.length=s.n*m∧rest.length=(s.c-s.n)*m∧s.n≤s.c∧Sat ρ (aw b (pre++(xs++rest))::L) w:=by
 obtain⟨⟨h,⟨h1,h2,hd,rfl,ha,hl⟩,hh⟩,h3⟩:=H
 rcases ha with ⟨g1,g2,g3,g4,g5⟩|⟨b,off,pre,rest,g1,g2,g3,g4,g5,g6⟩
 ·refine .inl ⟨g1,g2,g3,g4,⟨h2,hl,fun b o hb=>hh b o (by simp[g5 b,hb])⟩,h3⟩
 ·exact .inr ⟨b,off,pre,rest,g1,g2,g3,g4,g5,⟨_,⟨h1,h2,hd,rfl,g6,hl⟩,hh⟩,h3⟩
theorem Tr.fD{s:ay}{m:Nat}{xs:List Value}{T:Tree}(t:Take L (aE s m xs) L')(h:xs.length=s.n*m→s.n≤s.c→Tr ρ0 ρ L T Post):Tr ρ0 ρ L T Post:=fun hle w hw=>by
 rcases(hw.perm t.perm).sl with ⟨g1,g2,g3,g4,_⟩|⟨b,off,pre,rest,g1,g2,g3,g4,g5,_⟩
 ·exact h (by rw[g4,g2];simp) (by omega) hle w hw
 ·exact h g3 g5 hle w hw
theorem gp{α:Type}{pre xs rest:List α}{i:Nat}(h:i<xs.length):(pre++(xs++rest))[pre.length+i]? =xs[i]? :=by
 rw[List.getElem?_append_right (by omega),Nat.add_sub_cancel_left,List.getElem?_append_left h]
theorem cn{s:ay}{m:Nat}{xs:List Value}{i:Int}{k:Addr→Tree}(t:Take L (aE s m xs) L')(h0:0≤i)(h1:i<s.n)(h:∀a0,s.a=some a0→Tr ρ0 ρ L (k (fa a0 (i.toNat*m))) Post):
  Tr ρ0 ρ L (ix s.a s.n i m k) Post:=fun hle w hw=>by
 rcases(hw.perm t.perm).sl with ⟨g1,g2,_⟩|⟨b,off,pre,rest,g1,_⟩
 ·omega
 ·exact⟨_,g1,h0,h1,h _ g1 hle w hw⟩
theorem cT{s:ay}{m:Nat}{xs:List Value}{k:LK}{a a0:Addr}{f:LT k→Tree}{j:Nat}{x:LT k}(hs:s.a=some a0)(t:Take L (aE s m xs) L')(ha:∀b o,a0=⟨b,o,none⟩→a=⟨b,o+j,none⟩)
  (hx:xs[j]? =some (k.val x)) (h:Tr ρ0 ρ L (f x) Post):Tr ρ0 ρ L (Bl k a f) Post:=fun hle w hw=>by
 have hj:j<xs.length:=by
  rcases Nat.lt_or_ge j xs.length with h|h
  ·exact h
  ·rw[List.getElem?_eq_none h]at hx;cases hx
 rcases(hw.perm t.perm).sl with ⟨g1,g2,g3,g4,_⟩|⟨b,off,pre,rest,g1,g2,g3,g4,g5,g6⟩
 ·rw[g4]at hj;simp at hj
 ·rw[hs]at g1
  injection g1 with g1
  obtain⟨ty,hb⟩:=g6.cl
  refine⟨x,?_,h hle w hw⟩
  rw[ha b off g1]
  refine cell_of hb ?_
  rw[List.getElem?_toArray,←g2,gp hj,hx]
theorem mz{pre xs rest vs:List Value}{j:Nat}(h:j+vs.length≤xs.length):bN (pre++(xs++rest)) (pre.length+j) vs=pre++(bN xs j vs++rest):=by
 induction vs generalizing xs j with
 |nil=>rfl
 |cons v vs ih=>
  simp only[List.length_cons]at h
  simp only[bN]
  rw[List.set_append_right _ _ (by omega),Nat.add_sub_cancel_left,List.set_append_left _ _ (by omega)]
  have:=ih (xs:=xs.set j v) (j:=j+1) (by simp;omega)
  rw[Nat.add_assoc];exact this
theorem fO{xs vs:List Value}{j:Nat}:(bN xs j vs).length=xs.length:=by
 induction vs generalizing xs j with
 |nil=>rfl
 |cons v vs ih=>simp only[bN];rw[ih];simp
theorem gu{s:ay}{m:Nat}{xs:List Value}{a a0:Addr}{vs:List Value}{k:Tree}{j:Nat}(hs:s.a=some a0)(t:Take L (aE s m xs) L')(ha:∀b o,a0=⟨b,o,none⟩→a=⟨b,o+j,none⟩)
  (hl:j+vs.length≤xs.length) (h1:vs.all jX=true) (h:Tr ρ0 ρ (aE s m (bN xs j vs)::L') k Post):Tr ρ0 ρ L (st a vs k) Post:=fun hle w hw=>by
 rcases(hw.perm t.perm).sl with ⟨g1,g2,g3,g4,_⟩|⟨b,off,pre,rest,g1,g2,g3,g4,g5,g6⟩
 ·rw[hs]at g1;cases g1
 ·have g1':=g1
  rw[hs]at g1
  injection g1 with g1
  have hT:Tr ρ0 ρ (aw b (pre++(xs++rest))::L') (st a vs k) Post:=by
   refine aL (off:=off+j) (ha b off g1) .here (by simp;omega) h1 ?_
   rw[←g2,mz hl]
   refine Tr.imp .here (fun h hh=> .inr ⟨b,off,pre,rest,g1',g2,by rw[fO];exact g3,g4,g5,hh⟩) h
  exact hT hle w g6
theorem bJ{s:ay}{m:Nat}{xs:List Value}{i:Int}{k:Addr→Tree}(hr:eX ρ s m xs)(h0:0≤i)(h1:i<s.n)(h:∀a0,s.a=some a0→Tr ρ0 ρ L (k (fa a0 (i.toNat*m))) Post):
  Tr ρ0 ρ L (ix s.a s.n i m k) Post:=fun hle w hw=>by
 obtain⟨_,hr|⟨b,off,cs,ty,fr,g1,_⟩⟩:=hr
 ·omega
 ·exact⟨_,g1,h0,h1,h _ g1 hle w hw⟩
theorem bZ{s:ay}{m:Nat}{xs:List Value}{k:LK}{a a0:Addr}{f:LT k→Tree}{j:Nat}{x:LT k}(hs:s.a=some a0)(hr:eX ρ s m xs)(ha:∀b o,a0=⟨b,o,none⟩→a=⟨b,o+j,none⟩)
  (hx:xs[j]? =some (k.val x)) (h:Tr ρ0 ρ L (f x) Post):Tr ρ0 ρ L (Bl k a f) Post:=by
 have hj:j<xs.length:=by
  rcases Nat.lt_or_ge j xs.length with h|h
  ·exact h
  ·rw[List.getElem?_eq_none h]at hx;cases hx
 obtain⟨h1,hr|⟨b,off,cs,ty,fr,g1,g2,g3⟩⟩:=hr
 ·rw[hr]at h1;simp at h1;rw[h1]at hj;simp at hj
 ·rw[hs]at g1
  injection g1 with g1
  exact D6 (ha b off g1) g2 (by rw[g3 j hj,hx]) h
theorem Tr.cX{s:ay}{m:Nat}{xs:List Value}{T:Tree}(t:Take L (aE s m xs) L')(h:∀ρ',Le ρ ρ'→eX ρ' s m xs→Tr ρ0 ρ' L' T Post):Tr ρ0 ρ L T Post:=fun hle w hw=>by
 rcases(hw.perm t.perm).sl with ⟨g1,g2,g3,g4,g5⟩|⟨b,off,pre,rest,g1,g2,g3,g4,g5,g6⟩
 ·exact h ρ (Le.refl _) ⟨by rw[g4,g2];simp,.inl g2⟩ hle w g5
 ·have hT:Tr ρ0 ρ (aw b (pre++(xs++rest))::L') T Post:=by
   refine Tr.fv .here fun ρ' ⟨ty,hρ⟩ hle'=>h ρ' hle' ⟨g3,.inr ⟨b,off,_,ty,_,g1,hρ,fun i hi=> ?_⟩⟩
   rw[List.getElem?_toArray,←g2,gp hi]
  exact hT hle w g6
theorem aE.wc{b:Nat}{cs:List Value}{n m:Nat}(hl:cs.length=n*m)(h:HP)(H:aw b cs h):aE ⟨some ⟨b,0,none⟩,n,n⟩ m cs h:=
 .inr ⟨b,0,[],[],rfl,rfl,hl,by simp,Nat.le_refl _,by simpa using H⟩
theorem aE.nil(m:Nat)(h:HP)(H:emp h):aE ⟨none,0,0⟩ m [] h:= .inl ⟨rfl,rfl,rfl,rfl,H⟩
theorem Tr.cq{T:Tree}(m:Nat)(h:Tr ρ0 ρ (aE ⟨none,0,0⟩ m []::L) T Post):Tr ρ0 ρ L T Post:=fun hle w hw=>by
 refine h hle w ?_
 obtain⟨⟨h0,hl,hh⟩,h3⟩:=hw
 exact⟨⟨h0,⟨fun _=>none,h0,fun _=> .inl rfl,by funext b;simp,aE.nil m _ (fun _=>rfl),hl⟩,hh⟩,h3⟩
theorem rm(n:Nat):∀(r c:Nat),256≤c→c≤2*n→Builtin.growBy n r c≤2*n
 |0,c,_,h=>by simpa[Builtin.growBy]using h
 |r+1,c,h0,h=>by
  unfold Builtin.growBy
  split
  ·exact h
  ·exact rm n r _ (by omega) (by omega)
theorem nextslicecap_le{n c:Nat}(h:c<n):Builtin.nextslicecap n c≤2*n:=by
 unfold Builtin.nextslicecap
 split
 ·omega
 ·split
  ·omega
  ·exact rm n 4 c (by omega) (by omega)
def Rd(ρ:FR)(L:List aA)(s:ay)(m:Nat)(ys:List Value):Prop:=
 ys.length=s.n*m∧∀w,Sat ρ L w→s.n=0∨∃b off,s.a=some ⟨b,off,none⟩∧∀i,i<ys.length→w.cell? ⟨b,off+i,none⟩=ys[i]?
theorem Rd.ro{s:ay}{m:Nat}{ys:List Value}(h:eX ρ s m ys):Rd ρ L s m ys:=by
 refine⟨h.1,fun w hw=>h.2.imp id ?_⟩
 rintro⟨b,off,cs,ty,fr,g1,g2,g3⟩
 refine⟨b,off,g1,fun i hi=> ?_⟩
 obtain⟨y,hy⟩:∃y,ys[i]? =some y:=⟨ys[i],by simp[hi]⟩
 rw[hy];exact cell_of (hw.2 _ _ g2) (by rw[g3 i hi,hy])
theorem Rd.cl{s:ay}{m:Nat}{ys:List Value}{b:Nat}(t:Take L (aw b ys) L')(hs:s.a=some ⟨b,0,none⟩)(hl:ys.length=s.n*m):Rd ρ L s m ys:=by
 refine⟨hl,fun w hw=> .inr ⟨b,0,hs,fun i hi=> ?_⟩⟩
 obtain⟨ty,hb⟩:=(hw.perm t.perm).cl
 obtain⟨y,hy⟩:∃y,ys[i]? =some y:=⟨ys[i],by simp[hi]⟩
 rw[hy];exact cell_of hb (by simp[hy])
theorem Rd.sl{s:ay}{m:Nat}{ys:List Value}(t:Take L (aE s m ys) L')(hl:ys.length=s.n*m):Rd ρ L s m ys:=by
 refine⟨hl,fun w hw=> ?_⟩
 rcases(hw.perm t.perm).sl with ⟨g1,g2,_⟩|⟨b,off,pre,rest,g1,g2,g3,g4,g5,g6⟩
 ·exact .inl g2
 ·refine .inr ⟨b,off,g1,fun i hi=> ?_⟩
  obtain⟨ty,hb⟩:=g6.cl
  obtain⟨y,hy⟩:∃y,ys[i]? =some y:=⟨ys[i],by simp[hi]⟩
  rw[hy];exact cell_of hb (by rw[List.getElem?_toArray,←g2,gp hi,hy])
theorem dD{P:Program}{w:World}{s:ay}{m:Nat}{ys:List Value}(hl:ys.length=s.n*m)(h:s.n=0∨∃b off,s.a=some ⟨b,off,none⟩∧∀i,i<ys.length→w.cell? ⟨b,off+i,none⟩=ys[i]?):
  (Builtin.firstCells m s.n (.slice s.a s.n s.c)).run P w= .ok ys.toArray w:=by
 rcases h with h|⟨b,off,hs,hc⟩
 ·rw[h]at hl;simp at hl
  subst hl
  cases hs:s.a with
  |none=>simp[Builtin.firstCells]
  |some a=>simp[Builtin.firstCells,h,loadCells,loadCellsFrom]
 ·rw[hs]
  have:=run_loadCells (P:=P) (w:=w) (ad:=⟨b,off,none⟩) ys 0 #[] (by intro j hj;rw[af,Nat.zero_add];exact hc j hj)
  simp[Builtin.firstCells,loadCells,←hl,this]
def lU(P:Program)(ts:Array TypeId)(m bytes:Nat):Bool:=
 match ts.toList with
 |[t,x]=>(match P.underlying t with
  |some (.slice e)=>(match P.info? e with |some i=>i.size==m&&i.bytes==bytes&&(match i.zero with |some z=>z.cells.size==m|none=>false)|none=>false)
  |_=>false)&&(match P.underlying x with |some (.slice _)=>true|_=>false)
 |_=>false
theorem ly{vs:List Value}{w:World}{P:Program}{b:Nat}{off:Nat}{cs:List Value}{R:List aA}(H:Sat ρ (aw b cs::R) w)(hv:vs.all jX=true)(hl:off+vs.length≤cs.length):
  (storeCells ⟨b,off,none⟩ vs).run P w= .ok () (yC ⟨b,off,none⟩ 0 vs w):=by
 obtain⟨ty,hb⟩:=H.cl
 refine kc vs 0 w hv fun j hj=> ?_
 rw[af]
 have:off+(0+j)<cs.length:=by omega
 exact⟨by rw[cell_of hb (v:=cs[off+(0+j)]) (by simp[this])];rfl,by simp[World.frozen?,hb]⟩
theorem rq{xs rest ys:List Value}(h:ys.length≤rest.length):bN (xs++rest) xs.length ys=xs++ys++rest.drop ys.length:=by
 induction ys generalizing xs rest with
 |nil=>simp[bN]
 |cons y ys ih=>
  cases rest with
  |nil=>simp at h
  |cons r rest=>
   simp only[bN]
   have h1:(xs++r::rest).set xs.length y=(xs++[y])++rest:=by
    rw[List.set_append_right _ _ (Nat.le_refl _)];simp
   have h2:xs.length+1=(xs++[y]).length:=by simp
   rw[h1,h2,ih (by simpa using h)]
   simp
theorem k9{z:Array Value}{n:Nat}:(Builtin.zeroCells z n).size=n*z.size:=by simp[Builtin.zeroCells]
theorem df{P:Program}{ts:Array TypeId}{ty:TypeId}{s x:ay}{m bytes:Nat}{xs ys:List Value}{k:RT (.one (.l .slice))→Tree}(hok:lU P ts m bytes=true)(t:Take L (aE s m xs) L')
  (hy:Rd ρ L' x m ys) (h1:ys.all jX=true) (hb:2*(s.n+x.n)*bytes≤2^48) (hb2:s.n+x.n<2^62)
  (h:∀r:ay,r.n=s.n+x.n→Tr ρ0 ρ (aE r m (xs++ys)::L') (k r) Post):
  Tr ρ0 ρ L (c9 P (Builtin.append_ ts ty #[.slice s.a s.n s.c,.slice x.a x.n x.c]) (.one (.l .slice)) k) Post:=by
 refine Tr.take t (gQ (fun r M=>∃r':ay,r=r'∧r'.n=s.n+x.n∧M=aE r' m (xs++ys)::L') (fun w hw=> ?_) ?_)
 rotate_left
 ·rintro r M ⟨r',rfl,hr,rfl⟩;exact h r hr
 ·unfold lU at hok
  split at hok
  ·rename_i t1 t2 hts
   rw[Bool.and_eq_true]at hok
   obtain⟨hok1,hok2⟩:=hok
   split at hok1
   ·rename_i e he
    split at hok1
    ·rename_i inf hinf
     simp only[Bool.and_eq_true,beq_iff_eq]at hok1
     obtain⟨⟨hsz,hby⟩,hz⟩:=hok1
     split at hz
     ·rename_i z hzz
      simp only[beq_iff_eq]at hz
      split at hok2
      ·rename_i e2 he2
       have hsize:bd P e=some m:=by simp[bd,hinf,hsz]
       have hzero:(P.info? e).bind (·.zero)=some z:=by simp[hinf,hzz]
       have ht0:ts[0]? =some t1:=by have:=congrArg (fun l=>l[0]?) hts;simpa using this
       have ht1:ts[1]? =some t2:=by have:=congrArg (fun l=>l[1]?) hts;simpa using this
       have hyr:∀w',Sat ρ L' w'→(Builtin.firstCells m x.n (.slice x.a x.n x.c)).run P w'= .ok ys.toArray w':=fun w' hw'=>dD hy.1 (hy.2 w' hw')
       have hby':(typeInfo e).run P w= .ok inf w:=by simp[typeInfo,hinf]
       have a0:(#[.slice s.a s.n s.c,.slice x.a x.n x.c]:Array Value)[0]? =some (.slice s.a s.n s.c):=rfl
       have a1:(#[.slice s.a s.n s.c,.slice x.a x.n x.c]:Array Value)[1]? =some (.slice x.a x.n x.c):=rfl
       unfold Builtin.append_
       simp only[ht0,ht1,a0,a1,Sem.run_bind,run_underlying he,run_sizeOf hsize,run_underlying he2,Result.andThen_ok,Sem.run_pure,Bool.false_eq_true,if_false,Bool.not_false,if_true,Builtin.lenOf]
       by_cases hfit:s.n+x.n≤s.c
       ·simp only[if_pos hfit]
        rcases hw.sl with ⟨g1,g2,g3,g4,g5⟩|⟨b,off,pre,rest,g1,g2,g3,g4,g5,g6⟩
        ·have hx0:x.n=0:=by omega
         have hys:ys=[]:=by have:=hy.1;rw[hx0]at this;simpa using this
         have hyr':=hyr w g5
         refine⟨s,w,_,?_,⟨s,rfl,by omega,rfl⟩,?_⟩
         ·simp only[Sem.run_bind,hyr',Result.andThen_ok,g1,Sem.run_pure]
          simp[RK.val,KD.val,LK.val,g1,g2,g3,hx0]
         ·rw[hys,List.append_nil];exact hw
        ·have hyr':=hyr w g6.drop
         have hle:s.n*m+ys.length≤(xs++rest).length:=by
          have h2:x.n≤s.c-s.n:=by omega
          have h3:=Nat.mul_le_mul_right m h2
          simp only[List.length_append];have:=hy.1;omega
         have hst:=ly (P:=P) (off:=off+s.n*m) g6 h1 (by simp only[List.length_append]at*;omega)
         refine⟨⟨s.a,s.n+x.n,s.c⟩,yC ⟨b,off+s.n*m,none⟩ 0 ys w,aE ⟨s.a,s.n+x.n,s.c⟩ m (xs++ys)::L',?_,⟨_,rfl,rfl,rfl⟩,?_⟩
         ·simp only[Sem.run_bind,hyr',Result.andThen_ok,g1,gg,af]
          erw [hst]
          rfl
         ·have hs:=oB ys (off+s.n*m) 0 _ w g6
          have e2:bN (pre++(xs++rest)) (off+s.n*m+0) ys=pre++((xs++ys)++rest.drop ys.length):=by
           have e3:bN (pre++(xs++rest)) (pre.length+s.n*m) ys=bN ((pre++xs)++rest) (pre++xs).length ys:=by
            rw[List.append_assoc,List.length_append,g3]
           rw[Nat.add_zero,←g2,e3,rq (by simp only[List.length_append]at hle;omega)]
           simp
          rw[e2]at hs
          refine Sat.imp (fun h hh=> .inr ⟨b,off,pre,rest.drop ys.length,g1,g2,?_,?_,hfit,hh⟩) hs
          ·simp only[List.length_append,g3,hy.1,Nat.add_mul]
          ·simp only[List.length_drop,g4,hy.1]
           rw[←Nat.sub_mul];congr 1;omega
       ·simp only[if_neg hfit]
        have c1:¬((↑(s.n+x.n):Int)>IntKind.i64.max∧(False∨inf.bytes=0)):=by
         rintro⟨hgt,_⟩
         have:IntKind.i64.max=9223372036854775807:=by decide
         omega
        have c2:¬(Builtin.nextslicecap (s.n+x.n) s.c*inf.bytes>2^48):=by
         rw[hby]
         have h3:=nextslicecap_le (n:=s.n+x.n) (c:=s.c) (by omega)
         have h4:=Nat.mul_le_mul_right bytes h3
         omega
        let N:=(Question.appendCap (s.n+x.n) s.c e).cut (w.tape w.drawn (Question.appendCap (s.n+x.n) s.c e))
        have hN:s.n+x.n≤N:=by simp only[N,Question.cut];omega
        have hch:(choose (Question.appendCap (s.n+x.n) s.c e)).run P w= .ok N {w with drawn:=w.drawn+1}:=rfl
        have hw2:Sat ρ (aE s m xs::L') {w with drawn:=w.drawn+1}:=hw.drawn
        have hold:=dD (P:=P) ((Rd.sl (ρ:=ρ) (L:=aE s m xs::L') .here (m:=m) (ys:=xs) (by
         rcases hw.sl with ⟨g1,g2,g3,g4,g5⟩|⟨b,off,pre,rest,g1,g2,g3,g4,g5,g6⟩
         ·rw[g4,g2];simp
         ·exact g3)).1) ((Rd.sl (ρ:=ρ) (L:=aE s m xs::L') .here (m:=m) (ys:=xs) (by
         rcases hw.sl with ⟨g1,g2,g3,g4,g5⟩|⟨b,off,pre,rest,g1,g2,g3,g4,g5,g6⟩
         ·rw[g4,g2];simp
         ·exact g3)).2 _ hw2)
        have hlen:xs.length=s.n*m:=by
         rcases hw.sl with ⟨g1,g2,g3,g4,g5⟩|⟨b,off,pre,rest,g1,g2,g3,g4,g5,g6⟩
         ·rw[g4,g2];simp
         ·exact g3
        have hyr':=hyr _ hw2.drop
        have hti:∀w',(typeInfo e).run P w'= .ok inf w':=fun w'=>by simp[typeInfo,hinf]
        let W:World:={w with drawn:=w.drawn+1}
        let cs:Array Value:=xs.toArray++ys.toArray++Builtin.zeroCells z.cells (N-(s.n+x.n))
        refine⟨⟨some ⟨W.heap.size,0,none⟩,s.n+x.n,N⟩,W.alloc (.cells cs e),_,?_,⟨_,rfl,rfl,rfl⟩,?_⟩
        ·simp only[Sem.run_bind,hti,Result.andThen_ok,Sem.run_ite,if_neg c1,if_neg c2,hch,run_askRoom,hold,hyr',dX hzero]
         simp only[newRow,Sem.run_bind,run_newObj,Result.andThen_ok,Sem.run_pure]
         rfl
        ·have hnew:=Sat.ta (t:=e) (cs:=cs.toList) hw2.drop
         rw[Array.toArray_toList]at hnew
         refine Sat.imp (fun h hh=> .inr ⟨_,0,[],(Builtin.zeroCells z.cells (N-(s.n+x.n))).toList,rfl,rfl,?_,?_,hN,?_⟩) hnew
         ·simp only[List.length_append,hlen,hy.1,Nat.add_mul]
         ·simp[k9,hz]
         ·simpa[cs]using hh
      ·cases hok2
     ·cases hz
    ·cases hok1
   ·cases hok1
  ·cases hok
theorem wrap64{n:Int}(h0: -9223372036854775808≤n)(h1:n<9223372036854775808):IntKind.wrap .i64 n=n:=by
 unfold IntKind.wrap IntKind.bits IntKind.signed
 simp only[Bool.true_and,decide_eq_true_eq]
 split<;>omega
theorem zq{z:Array Value}{n m:Nat}(hz:z.size=m):((Array.range (n*m)).map (z[·%z.size]!))=(List.replicate n z.toList).flatten.toArray:=(nR hz).symm
theorem y8{P:Program}{t e:TypeId}{m bytes:Nat}{z:Value}{n:Int}{k:RT (.one (.l .slice))→Tree}(hu:P.underlying t=some (.slice e))
  (hi:(P.info? e).map (fun i=>(i.size,i.bytes,i.zero))=some (m,bytes,some z)) (hz:z.cells.size=m) (h0:0≤n) (h1:bytes*n≤2^48) (h2:n<2^62)
  (h:∀b,Tr ρ0 ρ (aE ⟨some ⟨b,0,none⟩,n.toNat,n.toNat⟩ m (List.replicate n.toNat z.cells.toList).flatten::L) (k ⟨some ⟨b,0,none⟩,n.toNat,n.toNat⟩) Post):
  Tr ρ0 ρ L (c9 P (Instr.makeSlice t (.int .i64 n) (.int .i64 n)) (.one (.l .slice)) k) Post:=by
 cases hinf:P.info? e with
 |none=>rw[hinf]at hi;simp at hi
 |some inf=>
 rw[hinf]at hi
 simp only[Option.map_some,Option.some.injEq,Prod.mk.injEq]at hi
 obtain⟨hs,hby,hzz⟩:=hi
 have hsize:bd P e=some m:=by simp[bd,hinf,hs]
 have hzero:(P.info? e).bind (·.zero)=some z:=by simp[hinf,hzz]
 refine gQ (fun r M=>∃b,r=⟨some ⟨b,0,none⟩,n.toNat,n.toNat⟩∧M=aE ⟨some ⟨b,0,none⟩,n.toNat,n.toNat⟩ m (List.replicate n.toNat z.cells.toList).flatten::L) (fun w hw=> ?_) ?_
 rotate_left
 ·rintro r M ⟨b,rfl,rfl⟩;exact h b
 ·have hti:(typeInfo e).run P w= .ok inf w:=by simp[typeInfo,hinf]
  have hwr:IntKind.i64.wrap n=n:=wrap64 (by omega) (by omega)
  have hn:¬(n<0):=by omega
  have hc:¬((decide (n<0)||decide ((inf.bytes:Int)*n>2^48)||decide (n<0)||decide (n>n))=true):=by
   rw[hby];simp;omega
  refine⟨_,w.alloc (.cells (List.replicate n.toNat z.cells.toList).flatten.toArray e),_,?_,⟨w.heap.size,rfl,rfl⟩,?_⟩
  ·unfold Instr.makeSlice
   simp only[Sem.run_bind,run_underlying hu,Result.andThen_ok,asInt,asIntOf,Sem.run_pure,hti,hwr]
   rw[if_neg hc]
   simp only[Sem.run_bind,run_askRoom,Result.andThen_ok,run_sizeOf hsize]
   by_cases h0:n.toNat*m=0
   ·have e1:(List.replicate n.toNat z.cells.toList).flatten=[]:=by
     apply List.eq_nil_of_length_eq_zero
     simp[List.length_flatten,hz,h0]
    have e0:∀z0:Array Value,((Array.range (n.toNat*m)).map fun x=>z0[x%z0.size]!)= #[]:=by intro z0;rw[h0];simp
    rw[if_pos h0,e1]
    simp only[Sem.run_bind,Sem.run_pure,Result.andThen_ok,e0,newRow,run_newObj]
    rfl
   ·rw[if_neg h0]
    simp only[Sem.run_bind,Sem.run_pure,Result.andThen_ok,dX hzero,zq hz,newRow,run_newObj]
    rfl
  ·refine Sat.imp (fun h hh=>aE.wc ?_ h hh) hw.ta
   simp[List.length_flatten,hz]
end Go.Gl
