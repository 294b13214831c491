/- Steps that come together: elements of slices of numbers are read, put, appended. -/
import Derived.Test.YtfepdmpplahloaaGreatGsClass
set_option linter.unusedSimpArgs false
set_option linter.unusedVariables false
namespace Go.Proofs.YtfepdmpplahloaaGreat
open Go Go.Gl
variable{ρ0 ρ:FR}{L L':List Asn}{Post:Value→List Asn→Prop}{T:Tree}
theorem _root_.Go.Gl.RoS.len{s:Slc}{xs:List Int}(hr:RoS ρ s 1 (xs.map i64)):s.n=xs.length:=by have:=hr.1;simpa using this.symm
theorem _root_.Go.Gl.Tr.nlen{s:Slc}{xs:List Int}(t:Take L (SLc s 1 (xs.map i64)) L')(h:s.n=xs.length→Tr ρ0 ρ L T Post):Tr ρ0 ρ L T Post:=
 Tr.sl_len t fun h1 _=>h (by simpa using h1.symm)
theorem en_getRo{s:Slc}{xs:List Int}{i:Int}{f:Int→Tree}(hr:RoS ρ s 1 (xs.map i64))(h0:0≤i)(h1:i<xs.length)(h:Tr ρ0 ρ L (f (xs.getD i.toNat 0)) Post):
  Tr ρ0 ρ L (ix s.a s.n i 1 fun a=>ld (.l (.int .i64)) a f) Post:=by
 have hn:=hr.len
 refine en_ixRo hr h0 (by omega) fun a0 ha=> ?_
 exact en_ldRo (k:= .int .i64) (j:=i.toNat) (x:=xs.getD i.toNat 0) ha hr (by rintro b o rfl;simp[fa_mk]) (getD_map (by omega)) h
theorem en_getSL{s:Slc}{xs:List Int}{i:Int}{f:Int→Tree}(t:Take L (SLc s 1 (xs.map i64)) L')(h0:0≤i)(h1:i<xs.length)(h:Tr ρ0 ρ L (f (xs.getD i.toNat 0)) Post):
  Tr ρ0 ρ L (ix s.a s.n i 1 fun a=>ld (.l (.int .i64)) a f) Post:=by
 refine Tr.nlen t fun hn=> ?_
 refine en_ixSL t h0 (by omega) fun a0 ha=> ?_
 exact en_ldSL (k:= .int .i64) (j:=i.toNat) (x:=xs.getD i.toNat 0) ha t (by rintro b o rfl;simp[fa_mk]) (getD_map (by omega)) h
theorem en_setSL{s:Slc}{xs:List Int}{i v:Int}{k:Tree}(t:Take L (SLc s 1 (xs.map i64)) L')(h0:0≤i)(h1:i<xs.length)(h:Tr ρ0 ρ (SLc s 1 ((xs.set i.toNat v).map i64)::L') k Post):
  Tr ρ0 ρ L (ix s.a s.n i 1 fun a=>st a [.int .i64 v] k) Post:=by
 refine Tr.nlen t fun hn=> ?_
 refine en_ixSL t h0 (by omega) fun a0 ha=> ?_
 refine en_stSL (j:=i.toNat) ha t (by rintro b o rfl;simp[fa_mk]) (by simp;omega) rfl ?_
 rw[show setL (xs.map i64) i.toNat [.int .i64 v]=(xs.set i.toNat v).map i64 by simp[setL,List.map_set]]
 exact h
theorem en_appI{P:Program}{ts:Array TypeId}{ty tt:TypeId}{s:Slc}{xs:List Int}{v:Int}{k:RT (.one (.l .slice))→Tree}(hok:appB P ts 1 8=true)(t:Take L (SLc s 1 (xs.map i64)) L')(hb:xs.length<2^40)
  (h:∀r:Slc,r.n=xs.length+1→Tr ρ0 ρ (SLc r 1 ((xs++[v]).map i64)::L') (k r) Post):
  Tr ρ0 ρ L (nw tt [.int .i64 v] fun b=>opr P (Builtin.append_ ts ty #[.slice s.a s.n s.c,.slice (some ⟨b,0,none⟩) 1 1]) (.one (.l .slice)) k) Post:=by
 refine Tr.nlen t fun hn=> ?_
 refine en_nw fun b=> ?_
 refine en_app (x:=⟨some ⟨b,0,none⟩,1,1⟩) (ys:=[i64 v]) hok (.skip t) (Rd.cl .here rfl rfl) rfl (by rw[hn];dsimp only;omega) (by rw[hn];dsimp only;omega) fun r hr=> ?_
 rw[show xs.map i64++[i64 v]=(xs++[v]).map i64 by simp]
 exact Tr.drop (.skip .here) (h r (by rw[hr,hn]))
theorem en_appS{P:Program}{ts:Array TypeId}{ty:TypeId}{s x:Slc}{xs ys:List Int}{k:RT (.one (.l .slice))→Tree}(hok:appB P ts 1 8=true)(t:Take L (SLc s 1 (xs.map i64)) L')(hy:Rd ρ L' x 1 (ys.map i64))(hb:xs.length+ys.length<2^40)
  (h:∀r:Slc,r.n=xs.length+ys.length→Tr ρ0 ρ (SLc r 1 ((xs++ys).map i64)::L') (k r) Post):
  Tr ρ0 ρ L (opr P (Builtin.append_ ts ty #[.slice s.a s.n s.c,.slice x.a x.n x.c]) (.one (.l .slice)) k) Post:=by
 refine Tr.nlen t fun hn=> ?_
 have hx:x.n=ys.length:=by have:=hy.1;simpa using this.symm
 refine en_app (x:=x) (ys:=ys.map i64) hok t hy (by simp[one1]) (by rw[hn,hx];omega) (by rw[hn,hx];omega) fun r hr=> ?_
 rw[←List.map_append]
 exact h r (by rw[hr,hn,hx])
theorem _root_.Go.Gl.Takes.skip1{B:Asn}{L M R:List Asn}(h:Takes L M R):Takes (B::L) M (B::R):=by
 induction h with
 |nil=>exact .nil
 |cons t _ ih=>exact .cons (.skip t) ih
theorem _root_.Go.Gl.Rd.on{A L R:List Asn}{s:Slc}{m:Nat}{ys:List Value}(h:Rd ρ A s m ys)(t:Takes L A R):Rd ρ L s m ys:=⟨h.1,fun w hw=>h.2 w (hw.perm t.perm).left⟩
theorem _root_.Go.Gl.Rd.len{A:List Asn}{s:Slc}{xs:List Int}(hr:Rd ρ A s 1 (xs.map i64)):s.n=xs.length:=by have:=hr.1;simpa using this.symm
theorem en_getRd{A R:List Asn}{s:Slc}{xs:List Int}{i:Int}{f:Int→Tree}(hr:Rd ρ A s 1 (xs.map i64))(t:Takes L A R)(h0:0≤i)(h1:i<xs.length)(h:Tr ρ0 ρ L (f (xs.getD i.toNat 0)) Post):
  Tr ρ0 ρ L (ix s.a s.n i 1 fun a=>ld (.l (.int .i64)) a f) Post:=fun hle w hw=>by
 have hn:=hr.len
 rcases(hr.on t).2 w hw with h2|⟨b,off,hs,hc⟩
 ·omega
 ·refine⟨⟨b,off,none⟩,hs,h0,by omega,xs.getD i.toNat 0,?_,h hle w hw⟩
  rw[fa_mk,Nat.mul_one,hc i.toNat (by simp;omega)]
  exact getD_map (by omega)
theorem en_getRoS{M:List Asn}{s:Slc}{xs:List Int}{i:Int}{f:Int→Tree}(hr:RoS ρ s 1 (xs.map i64))(h0:0≤i)(h1:i<xs.length)(h:Tr ρ0 ρ L (f (xs.getD i.toNat 0)) Post):
  Tr ρ0 ρ L (ix s.a s.n i 1 fun a=>ldS (Sat ρ M) (.l (.int .i64)) a f) Post:=by
 have hn:=hr.len
 refine en_ixRo hr h0 (by omega) fun a0 ha=> ?_
 obtain⟨h1,hr|⟨b,off,cs,ty,fr,g1,g2,g3⟩⟩:=hr
 ·omega
 ·rw[ha]at g1
  injection g1 with g1
  exact en_ldSR (k:= .int .i64) (x:=xs.getD i.toNat 0) (by rw[g1,fa_mk,Nat.mul_one]) g2 (by rw[g3 i.toNat (by simp;omega)];exact getD_map (by omega)) h
end Go.Proofs.YtfepdmpplahloaaGreat
