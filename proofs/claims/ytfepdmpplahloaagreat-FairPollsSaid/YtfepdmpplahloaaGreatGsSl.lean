/- Slices changed in place: parts taken out, tails cleared; new ones of zeros. -/
import Derived.Test.YtfepdmpplahloaaGreatGsHan
import Derived.Test.YtfepdmpplahloaaGreatGsTs
set_option linter.unusedSimpArgs false
set_option linter.unusedVariables false
namespace Go.Gl
open Go
variable{ρ0 ρ:FR}{L L':List aA}{Post:Value→List aA→Prop}
theorem aE.take{s:ay}{xs:List Value}{l:Nat}(hl:l≤s.n)(h:HP)(H:aE s 1 xs h):aE ⟨s.a,l,s.c⟩ 1 (xs.take l) h:=by
 rcases H with ⟨g1,g2,g3,g4,g5⟩|⟨b,off,pre,rest,g1,g2,g3,g4,g5,g6⟩
 ·exact .inl ⟨g1,by dsimp only;omega,g3,by rw[g4,List.take_nil],g5⟩
 ·refine .inr ⟨b,off,pre,xs.drop l++rest,g1,g2,?_,?_,by dsimp only;omega,?_⟩
  ·rw[List.length_take];dsimp only;omega
  ·rw[List.length_append,List.length_drop];dsimp only;omega
  ·rw[show pre++(xs.take l++(xs.drop l++rest))=pre++(xs++rest) by rw[←List.append_assoc (xs.take l),List.take_append_drop]]
   exact g6
theorem rW{P:Program}{tt e ty:TypeId}{z zz:Value}{s:ay}{xs:List Value}{l n c:Nat}{a':Option Addr}{k:RT (.many [])→Tree}(hu:P.underlying tt=some (.slice e))
  (hi:(P.info? e).bind (·.zero)=some zz) (hz:zz.cells= #[z]) (h1:jX z=true) (t:Take L (aE s 1 xs) L') (hn:l+n=s.n) (ha:0<n→a'=s.a.map fun b=>fa b (l*1))
  (h:Tr ρ0 ρ (aE ⟨s.a,l,s.c⟩ 1 (xs.take l)::L') (k ()) Post):
  Tr ρ0 ρ L (c9 P (Builtin.clear_ #[tt] ty #[.slice a' n c]) (.many []) k) Post:=by
 rcases Nat.eq_zero_or_pos n with h0|h0
 ·subst h0
  refine Tr.take t (Tr.imp .here (A':=aE ⟨s.a,l,s.c⟩ 1 (xs.take l)) (fun hp H=>aE.take (by omega) hp H) ?_)
  refine gQ (fun r M=>M=aE ⟨s.a,l,s.c⟩ 1 (xs.take l)::L') (fun w hw=> ?_) (fun x M hM=>by subst hM;exact h)
  refine⟨(),w,_,?_,rfl,hw⟩
  unfold Builtin.clear_
  have a0:(#[.slice a' 0 c]:Array Value)[0]? =some (.slice a' 0 c):=rfl
  have t0:(#[tt]:Array TypeId)[0]? =some tt:=rfl
  cases a' with
  |none=>simp only[a0,t0,Sem.run_bind,run_underlying hu,Result.andThen_ok,Sem.run_pure];rfl
  |some a=>simp only[a0,t0,Sem.run_bind,run_underlying hu,Result.andThen_ok,Sem.run_pure];rfl
 ·refine Tr.fD t fun hlen _=> ?_
  refine yN hu hi hz h1 t h0 (by omega) (ha h0) ?_
  refine Tr.imp .here (A':=aE ⟨s.a,l,s.c⟩ 1 (xs.take l)) (fun hp H=> ?_) h
  have:=aE.take (l:=l) (by omega) hp H
  rw[rM (by rw[List.length_replicate];omega),List.take_append_of_le_length (by rw[List.length_take];omega),List.take_take,Nat.min_self]at this
  exact this
theorem zF{P:Program}{ts:Array TypeId}{ty:TypeId}{s x:ay}{bytes i j c:Nat}{xs:List Value}{k:RT (.one (.l .slice))→Tree}(hok:lU P ts 1 bytes=true)(t:Take L (aE s 1 xs) L')
  (h1:xs.all jX=true) (hij:i≤j) (hj:j≤s.n) (hx:x.n=s.n-j) (hxa:j<s.n→x.a=s.a.map fun b=>fa b j) (hc:c=s.c)
  (h:Tr ρ0 ρ (aE s 1 (bN xs i (xs.drop j))::L') (k ⟨s.a,i+(s.n-j),s.c⟩) Post):
  Tr ρ0 ρ L (c9 P (Builtin.append_ ts ty #[.slice s.a i c,.slice x.a x.n x.c]) (.one (.l .slice)) k) Post:=by
 subst hc
 refine Tr.take t (gQ (fun r M=>(r:ay)=⟨s.a,i+(s.n-j),s.c⟩∧M=aE s 1 (bN xs i (xs.drop j))::L') (fun w hw=> ?_) ?_)
 rotate_left
 ·rintro r M ⟨rfl,rfl⟩;exact h
 ·unfold lU at hok
  split at hok
  ·rename_i t1 t2 hts
   rw[Bool.and_eq_true]at hok
   obtain⟨hok1,hok2⟩:=hok
   split at hok1
   ·rename_i e he
    split at hok1
    ·rename_i inf hinf
     simp only[Bool.and_eq_true,beq_iff_eq]at hok1
     obtain⟨⟨hsz,hby⟩,hz⟩:=hok1
     split at hok2
     ·rename_i e2 he2
      have hsize:bd P e=some 1:=by simp[bd,hinf,hsz]
      have ht0:ts[0]? =some t1:=by have:=congrArg (fun l=>l[0]?) hts;simpa using this
      have ht1:ts[1]? =some t2:=by have:=congrArg (fun l=>l[1]?) hts;simpa using this
      have a0:(#[.slice s.a i s.c,.slice x.a x.n x.c]:Array Value)[0]? =some (.slice s.a i s.c):=rfl
      have a1:(#[.slice s.a i s.c,.slice x.a x.n x.c]:Array Value)[1]? =some (.slice x.a x.n x.c):=rfl
      unfold Builtin.append_
      simp only[ht0,ht1,a0,a1,Sem.run_bind,run_underlying he,run_sizeOf hsize,run_underlying he2,Result.andThen_ok,Sem.run_pure,Bool.false_eq_true,if_false,Bool.not_false,if_true,Builtin.lenOf]
      rcases hw.sl with ⟨g1,g2,g3,g4,g5⟩|⟨b,off,pre,rest,g1,g2,g3,g4,g5,g6⟩
      ·have hfit:i+x.n≤s.c:=by omega
       simp only[if_pos hfit]
       have hx0:x.n=0:=by omega
       have hys:xs.drop j=[]:=by rw[g4];simp
       have hfc:=dD (P:=P) (w:=w) (s:=x) (m:=1) (ys:=[]) (by rw[hx0];rfl) (.inl hx0)
       refine⟨⟨s.a,i+(s.n-j),s.c⟩,w,_,?_,⟨rfl,rfl⟩,?_⟩
       ·simp only[Sem.run_bind,hfc,Result.andThen_ok,g1,Sem.run_pure]
        rw[hx]
        rfl
       ·rw[hys];exact hw
      ·have hfit:i+x.n≤s.c:=by omega
       simp only[if_pos hfit]
       obtain⟨ty',hb⟩:=g6.cl
       have hlen:(xs.drop j).length=x.n:=by rw[List.length_drop];omega
       have hfc:(Builtin.firstCells 1 x.n (.slice x.a x.n x.c)).run P w= .ok (xs.drop j).toArray w:=by
        rcases Nat.lt_or_ge j s.n with hlt|hge
        ·refine dD (P:=P) (w:=w) (s:=x) (m:=1) (ys:=xs.drop j) (by omega) (.inr ⟨b,off+j,by rw[hxa hlt,g1,Option.map_some,af],fun q hq=> ?_⟩)
         refine(cell_of hb (v:=(xs.drop j)[q]) ?_).trans (List.getElem?_eq_getElem hq).symm
         rw[List.getElem?_toArray,←g2,Nat.add_assoc,gp (by omega),List.getElem_drop,List.getElem?_eq_getElem]
        ·exact dD (P:=P) (w:=w) (s:=x) (m:=1) (ys:=xs.drop j) (by omega) (.inl (by omega))
       have h1':(xs.drop j).all jX=true:=by
        rw[List.all_eq_true]at h1⊢
        exact fun y hy=>h1 y (List.mem_of_mem_drop hy)
       have hst:=ly (P:=P) (off:=off+i) g6 h1' (by simp only[List.length_append];omega)
       refine⟨⟨s.a,i+(s.n-j),s.c⟩,yC ⟨b,off+i,none⟩ 0 (xs.drop j) w,_,?_,⟨rfl,rfl⟩,?_⟩
       ·simp only[Sem.run_bind,hfc,Result.andThen_ok,g1,gg,af,Nat.mul_one]
        erw [hst]
        rw[←hx]
        rfl
       ·have hs:=oB (xs.drop j) (off+i) 0 _ w g6
        have e2:bN (pre++(xs++rest)) (off+i+0) (xs.drop j)=pre++(bN xs i (xs.drop j)++rest):=by
         rw[Nat.add_zero,←g2];exact mz (by omega)
        rw[e2]at hs
        exact Sat.imp (fun h hh=> .inr ⟨b,off,pre,rest,g1,g2,by rw[fO];exact g3,g4,g5,hh⟩) hs
     ·cases hok2
    ·cases hok1
   ·cases hok1
  ·cases hok
end Go.Gl
namespace Go.Proofs.YtfepdmpplahloaaGreat
open Go Go.Gl
variable{ρ0 ρ:FR}{L L':List aA}{Post:Value→List aA→Prop}{T:Tree}
theorem xH(xs:List Int):(xs.map i64).all jX=true:=by simp[jX]
theorem BM{a:Option Addr}:(a.map fun b=>fa b (0*1))=a:=by cases a<;>rfl
theorem mV{a:Option Addr}{c:Nat}:(if c=(0:Int).toNat then a else a.map fun b=>fa b ((0:Int).toNat*1))=a:=by
 split
 ·rfl
 ·exact BM
theorem qR(s:ay)(xs:List Int)(i:Nat)(hi:i<xs.length)(hl:xs.length<2^40):Gl.Spec ρ Tryz.prog 133 [.slice s.a s.n s.c,i64 i,i64 (i+1)] [aE s 1 (xs.map i64)] RS
  fun r M=>r.n=xs.length-1∧M=[aE r 1 ((xs.eraseIdx i).map i64)]:=by
 refine Gl.Spec.of (fun Q w h=>F.av.Delete.calls s i (i+1) h) fun R=> ?_
 unfold F.av.Delete
 try simp only[aq,al]
 refine Tr.fD tk fun hlen hc=> ?_
 rw[List.length_map]at hlen
 refine bu ⟨by omega,by omega⟩ ?_
 refine dR (by omega) (by omega) (by omega) ?_
 refine ak (by rw[beq_eq_false_iff_ne];omega) (aK ?_)
 refine dR (by omega) (by omega) (by omega) ?_
 refine dR (by omega) (by omega) (by omega) ?_
 dsimp only
 rw[mV]
 rw[show(i:Int).toNat-(0:Int).toNat=i by omega,show s.c-(0:Int).toNat=s.c by omega]
 refine zF (s:=s) (i:=i) (j:=i+1) (c:=s.c) (x:=⟨if s.c=((i:Int)+1).toNat then s.a else s.a.map fun b=>fa b (((i:Int)+1).toNat*1),((s.n:Nat):Int).toNat-((i:Int)+1).toNat,s.c-((i:Int)+1).toNat⟩) ca tk (xH xs) (by omega) (by omega) (by dsimp only;omega) (fun hlt=> ?_) rfl ?_
 ·dsimp only
  rw[if_neg (by omega),show((i:Int)+1).toNat*1=i+1 by omega]
 have e:bN (xs.map i64) i ((xs.map i64).drop (i+1))=((xs.eraseIdx i)++xs.drop (xs.length-1)).map i64:=by
  rw[rM (by rw[List.length_drop,List.length_map];omega),List.length_drop,List.length_map,List.eraseIdx_eq_take_drop_succ,List.map_append,List.map_append,List.map_take,List.map_drop,List.map_drop,List.append_assoc]
  rw[show i+(xs.length-(i+1))=xs.length-1 by omega]
 rw[e]
 have hn1:i+(s.n-(i+1))=xs.length-1:=by omega
 rw[hn1]
 dsimp only
 refine dR (by omega) (by omega) (by omega) ?_
 dsimp only
 have hel:(xs.eraseIdx i).length=xs.length-1:=by rw[List.length_eraseIdx,if_pos hi]
 refine rW (e:=3) (zz:=i64 0) (z:=i64 0) (s:=s) (l:=xs.length-1) (by kernel_rfl) (by kernel_rfl) rfl rfl tk (by omega) (fun _=> ?_) ?_
 ·rw[if_neg (by omega),show((xs.length-1:Nat):Int).toNat*1=(xs.length-1)*1 by omega]
 rw[List.map_append,List.take_left' (by rw[List.length_map];exact hel)]
 exact aa (x:=(⟨s.a,xs.length-1,s.c⟩:ay)) rfl ⟨rfl,rfl⟩ ag aB
end Go.Proofs.YtfepdmpplahloaaGreat
