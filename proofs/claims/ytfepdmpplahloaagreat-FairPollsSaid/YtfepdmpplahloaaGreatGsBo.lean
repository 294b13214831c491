/- Laws of a runtime's parts: what they share. -/
import Derived.Test.YtfepdmpplahloaaGreatGsT
import Derived.Test.YtfepdmpplahloaaGreatGsGc3
import Derived.Test.YtfepdmpplahloaaGreatGsLaw5
import Derived.Test.YtfepdmpplahloaaGreatGsBx
namespace Go.Proofs.YtfepdmpplahloaaGreat
open Go Go.Gl
set_option maxRecDepth 100000
set_option linter.unusedVariables false
variable{Q:Value→World→Prop}{w:World}
def F.fM.Whole(p0:Option Addr):Tree:=
 br (!(Option.isNone p0))
 (nn p0 fun a1=>
 ld (.l .ptr) (fa a1 0) fun(x2:Option Addr)=>
 br (!(Option.isNone x2))
 (nn p0 fun a3=>
 ld (.l .ptr) (fa a3 0) fun(x4:Option Addr)=>
 nn x4 fun a5=>
 ld (.l .ptr) (fa a5 0) fun(x6:Option Addr)=>
 br (!(Option.isNone x6))
 (nn p0 fun a7=>
 ld (.l .ptr) (fa a7 0) fun(x8:Option Addr)=>
 nn x8 fun a9=>
 ld (.l .ptr) (fa a9 0) fun(x10:Option Addr)=>
 nn x10 fun a11=>
 ld (.l .ptr) (fa a11 0) fun(x12:Option Addr)=>
 br (!(Option.isNone x12))
 (nn p0 fun a13=>
 ld (.l .ptr) (fa a13 1) fun(x14:Option Addr)=>
 br (!(Option.isNone x14))
 (nn p0 fun a15=>
 ld (.l .ptr) (fa a15 2) fun(x16:Option Addr)=>
 br (!(Option.isNone x16))
 (nn p0 fun a17=>
 ld (.l .ptr) (fa a17 3) fun(x18:Option Addr)=>
 br (!(Option.isNone x18))
 (nn p0 fun a19=>
 ld (.l .ptr) (fa a19 3) fun(x20:Option Addr)=>
 nn x20 fun a21=>
 ld (.l .ptr) (fa a21 0) fun(x22:Option Addr)=>
 br (!(Option.isNone x22))
 (nn p0 fun a23=>
 ld (.l .ptr) (fa a23 3) fun(x24:Option Addr)=>
 nn x24 fun a25=>
 ld (.l .ptr) (fa a25 0) fun(x26:Option Addr)=>
 nn x26 fun a27=>
 ld (.l .ptr) (fa a27 0) fun(x28:Option Addr)=>
 br (!(Option.isNone x28))
 (nn p0 fun a29=>
 ld (.l .ptr) (fa a29 3) fun(x30:Option Addr)=>
 nn x30 fun a31=>
 ld (.l .ptr) (fa a31 0) fun(x32:Option Addr)=>
 nn x32 fun a33=>
 ld (.l .ptr) (fa a33 1) fun(x34:Option Addr)=>
 ret (.bool (!(Option.isNone x34))))
 (ret (.bool false)))
 (ret (.bool false)))
 (ret (.bool false)))
 (ret (.bool false)))
 (ret (.bool false)))
 (ret (.bool false)))
 (ret (.bool false)))
 (ret (.bool false)))
 (ret (.bool false))
theorem F.fM.Whole.calls(p0:Option Addr)(h:F.fM.Whole p0 Q w):Calls Tryz.prog 22 #[.pointer p0] w (aC Q):=
 Tryz.cd az.z Tryz.func22 (by kernel_rfl) (es:=[.va (.pointer p0)]) rfl (by kernel_rfl) h
end Go.Proofs.YtfepdmpplahloaaGreat
namespace Go.Proofs.YtfepdmpplahloaaGreat
open Go Go.Gl
variable{ρ0 ρ:FR}{L L':List aA}{Post:Value→List aA→Prop}{T:Tree}
theorem om(i:Pl)(x:Rt):Gl.Spec ρ Tryz.prog 22 [.pointer (some ⟨i.p,0,none⟩)] (i.A x) RB fun r M=>r=true∧M=i.A x:=by
 refine Gl.Spec.of (fun Q w h=>F.fM.Whole.calls (some ⟨i.p,0,none⟩) h) fun R=> ?_
 unfold F.fM.Whole
 try simp only[aq,al]
 refine cL.op (p:=i.r) (hp:=i.b) (rows:=x.rows) (n:=x.aU) tk fun q=> ?_
 refine dw.op (p:=i.f) (hp:=i.b) (wa:=x.wa) (pe:=x.pe) tk fun s z hs hz=> ?_
 refine au.op (p:=i.b) (S:=x.S) (cs:=x.cs) tk fun ps pt=> ?_
 refine aH rfl (ah ?_)
 refine ai (k:= .ptr) (b:=i.p) (off:=0) (x:=some ⟨i.r,0,none⟩) (by rw[af]) tk rfl ?_
 refine aH rfl (ah ?_)
 refine ai (k:= .ptr) (b:=i.p) (off:=0) (x:=some ⟨i.r,0,none⟩) (by rw[af]) tk rfl ?_
 refine ah ?_
 refine ai (k:= .ptr) (b:=i.r) (off:=0) (x:=some ⟨q,0,none⟩) (by rw[af]) tk rfl ?_
 refine aH rfl (ah ?_)
 refine ai (k:= .ptr) (b:=i.p) (off:=0) (x:=some ⟨i.r,0,none⟩) (by rw[af]) tk rfl ?_
 refine ah ?_
 refine ai (k:= .ptr) (b:=i.r) (off:=0) (x:=some ⟨q,0,none⟩) (by rw[af]) tk rfl ?_
 refine ah ?_
 refine dk (q:=q) (hp:=i.b) (rows:=x.rows) (by rw[af]) tk ?_
 refine aH rfl (ah ?_)
 refine ai (k:= .ptr) (b:=i.p) (off:=1) (x:=some ⟨i.h,0,none⟩) (by rw[af]) tk rfl ?_
 refine aH rfl (ah ?_)
 refine ai (k:= .ptr) (b:=i.p) (off:=2) (x:=some ⟨i.o,0,none⟩) (by rw[af]) tk rfl ?_
 refine aH rfl (ah ?_)
 refine ai (k:= .ptr) (b:=i.p) (off:=3) (x:=some ⟨i.f,0,none⟩) (by rw[af]) tk rfl ?_
 refine aH rfl (ah ?_)
 refine ai (k:= .ptr) (b:=i.p) (off:=3) (x:=some ⟨i.f,0,none⟩) (by rw[af]) tk rfl ?_
 refine ah ?_
 refine ai (k:= .ptr) (b:=i.f) (off:=0) (x:=some ⟨i.b,0,none⟩) (by rw[af]) tk rfl ?_
 refine aH rfl (ah ?_)
 refine ai (k:= .ptr) (b:=i.p) (off:=3) (x:=some ⟨i.f,0,none⟩) (by rw[af]) tk rfl ?_
 refine ah ?_
 refine ai (k:= .ptr) (b:=i.f) (off:=0) (x:=some ⟨i.b,0,none⟩) (by rw[af]) tk rfl ?_
 refine ah ?_
 refine ai (k:= .ptr) (b:=i.b) (off:=0) (x:=some ⟨ps,0,none⟩) (by rw[af]) tk rfl ?_
 refine aH rfl (ah ?_)
 refine ai (k:= .ptr) (b:=i.p) (off:=3) (x:=some ⟨i.f,0,none⟩) (by rw[af]) tk rfl ?_
 refine ah ?_
 refine ai (k:= .ptr) (b:=i.f) (off:=0) (x:=some ⟨i.b,0,none⟩) (by rw[af]) tk rfl ?_
 refine ah ?_
 refine ai (k:= .ptr) (b:=i.b) (off:=1) (x:=some ⟨pt,0,none⟩) (by rw[af]) tk rfl ?_
 refine Tr.close ag (au.cl (p:=i.b) (ps:=ps) (pt:=pt) (S:=x.S) (cs:=x.cs)) ?_
 refine Tr.close ag (dw.cl (p:=i.f) (hp:=i.b) (wa:=x.wa) (pe:=x.pe) hs hz) ?_
 refine Tr.close ag (cL.cl (p:=i.r) (q:=q) (hp:=i.b) (rows:=x.rows) (n:=x.aU)) ?_
 exact aa (x:=true) rfl ⟨rfl,rfl⟩ ag aB
end Go.Proofs.YtfepdmpplahloaaGreat
namespace Go.Proofs.YtfepdmpplahloaaGreat
open Go Go.Gl
variable{ρ0 ρ:FR}{L L':List aA}{Post:Value→List aA→Prop}{T:Tree}
theorem pA{n:Nat}(h0:1≤n)(a:Int):Ob.head (Sp.bB n) a=none:=by unfold Ob.head;rw[kB h0]
theorem yY{n:Nat}(h0:1≤n)(h1:n≤256):Sp.each (Sp.bB n)=[]:=by
 rw[List.eq_nil_iff_forall_not_mem]
 intro a ha
 obtain⟨m,w,rfl,hf⟩:=(cg (lL h0 h1).wf).mp ha
 rw[kB h0]at hf;cases hf
end Go.Proofs.YtfepdmpplahloaaGreat
namespace Go.Proofs.YtfepdmpplahloaaGreat
open Go Go.Gl
namespace Om
def fi(a:Int)(o:fT):fT:=if o.a=a then⟨o.a,{o.h with f:=true},o.ws⟩else o
end Om
structure Bo(S:aD)(cs:List aS)(os:List fT):Prop where
 hw:aO S cs
 each:(Sp.each S).Perm (os.map (·.a))
 head:∀o∈os,Ob.head S o.a=some o.h
 len:∀o∈os,o.ws.length=o.h.n.toNat
 get:∀o∈os,∀j:Nat,(j:Int)<o.h.n→Ob.get S o.a j=(o.ws.getD j 0,0)
theorem Bx.bo{S:aD}{cs:List aS}{P:Nat}{os:List fT}(H:Bx S cs P os):Bo S cs os:=⟨H.hw,H.each,H.head,H.len,H.get⟩
namespace Bo
variable{S:aD}{cs:List aS}{os:List fT}
theorem obj(H:Bo S cs os){a:Int}:Mk.obj S a↔∃o∈os,o.a=a:=by
 constructor
 ·intro h
  unfold Mk.obj at h
  cases hh:Ob.head S a with
  |none=>rw[hh]at h;cases h
  |some hd=>
   obtain⟨n,w,rfl,hf,_⟩:=Ob.bt H.hw hh
   have:=H.each.mem_iff.mp ((cg H.hw.wf).mpr ⟨n,w,rfl,hf⟩)
   obtain⟨o,ho,e⟩:=List.mem_map.mp this
   exact⟨o,ho,e⟩
 ·rintro⟨o,ho,rfl⟩
  unfold Mk.obj
  rw[H.head o ho];rfl
theorem ne(H:Bo S cs os){o:fT}(ho:o∈os):o.a≠0:=fun e=>Mk.gF H.hw (e▸H.obj.mpr ⟨o,ho,rfl⟩)
theorem pos(H:Bo S cs os){o:fT}(ho:o∈os):0<o.a:=by
 obtain⟨n,w,e,_⟩:=Ob.bt H.hw (H.head o ho)
 have:=H.ne ho
 omega
theorem gU(H:Bo S cs os){o:fT}(ho:o∈os):Ob.gU S o.a=o:=by
 unfold Ob.gU
 rw[H.head o ho]
 obtain⟨a,h,ws⟩:=o
 have h1:=H.len _ ho
 have h2:=H.get _ ho
 dsimp only at h1 h2⊢
 congr 1
 apply List.ext_getElem?
 intro j
 rw[List.getElem?_map]
 by_cases hj:j<h.n.toNat
 ·rw[List.getElem?_range hj,Option.map_some,h2 j (by omega),List.getD_eq_getElem?_getD,List.getElem?_eq_getElem (by omega)];rfl
 ·rw[List.getElem?_eq_none (by simp;omega),List.getElem?_eq_none (by omega)];rfl
theorem inj(H:Bo S cs os){o o':fT}(h:o∈os)(h':o'∈os)(e:o.a=o'.a):o=o':=by
 rw[←H.gU h,←H.gU h',e]
theorem final(H:Bo S cs os){o:fT}(ho:o∈os)(hk:o.h.k≠4)(hf:o.h.f=false):(Ob.final S o.a).1=0∧Bo (Ob.final S o.a).2 cs (os.map (Om.fi o.a)):=by
 obtain⟨h1,h2,h3,h4⟩:=Ob.fu H.hw (H.head o ho) hk hf
 have ha:∀o',(Om.fi o.a o').a=o'.a:=fun o'=>by unfold Om.fi;split<;>rfl
 have has:(os.map (Om.fi o.a)).map (·.a)=os.map (·.a):=by rw[List.map_map];exact List.map_congr_left fun o' _=>ha o'
 have hws:∀o',(Om.fi o.a o').ws=o'.ws:=fun o'=>by unfold Om.fi;split<;>rfl
 have hn:∀o',(Om.fi o.a o').h.n=o'.h.n:=fun o'=>by unfold Om.fi;split<;>rfl
 have hhd:∀o'∈os,Ob.head (Ob.final S o.a).2 o'.a=some (Om.fi o.a o').h:=fun o' ho'=>by
  unfold Om.fi
  by_cases e:o'.a=o.a
  ·rw[if_pos e]
   have:=H.inj ho' ho e
   subst this
   exact h2
  ·rw[if_neg e];exact h3 _ _ e (H.head o' ho')
 refine⟨h1,H.hw.final _,?_,fun o' ho'=> ?_,fun o' ho'=> ?_,fun o' ho' j hj=> ?_⟩
 ·rw[has]
  refine .trans ?_ H.each
  have hw':=H.hw.final (a:=o.a)
  rw[List.perm_ext_iff_of_nodup (eh hw'.wf) (eh H.hw.wf)]
  intro b
  have ob:∀{S':aD} (w:aO S' cs),b∈Sp.each S'↔∃hd,Ob.head S' b=some hd:=fun w=>cb w
  have key:∀{S':aD},aO S' cs→(b∈Sp.each S'↔∃hd,Ob.head S' b=some hd):=fun w=>cb w
  rw[key hw',key H.hw]
  constructor
  ·rintro⟨hd,hh⟩
   have:(Ob.final S o.a).2.pg=S.pg∧(Ob.final S o.a).2.ws.length=S.ws.length:=by
    unfold Ob.final
    rw[H.head o ho]
    dsimp only
    rw[if_neg hk,if_neg (by rw[hf];simp)]
    exact⟨rfl,List.length_set ..⟩
   obtain⟨n,w,rfl,hfd,_⟩:=Ob.bt hw' hh
   have hm:(n:Int)∈Sp.each S:=by
    refine(cg H.hw.wf).mpr ⟨n,w,rfl,?_⟩
    rw[←hfd]
    generalize hS:(Ob.final S o.a).2=S' at*
    obtain⟨ws',pg'⟩:=S'
    obtain⟨e1,e2⟩:=this
    dsimp only at e1 e2
    subst e1
    exact(eN e2 _).symm
   exact(key H.hw).mp hm
  ·rintro⟨hd,hh⟩
   by_cases e:b=o.a
   ·subst e;exact⟨_,h2⟩
   ·exact⟨_,h3 _ _ e hh⟩
 ·obtain⟨o1,ho1,rfl⟩:=List.mem_map.mp ho'
  rw[ha];exact hhd o1 ho1
 ·obtain⟨o1,ho1,rfl⟩:=List.mem_map.mp ho'
  rw[hws,hn];exact H.len o1 ho1
 ·obtain⟨o1,ho1,rfl⟩:=List.mem_map.mp ho'
  rw[hn]at hj
  rw[ha,hws,h4 _ _ j (H.head o1 ho1) (by omega) hj]
  exact H.get o1 ho1 j hj
end Bo
end Go.Proofs.YtfepdmpplahloaaGreat
