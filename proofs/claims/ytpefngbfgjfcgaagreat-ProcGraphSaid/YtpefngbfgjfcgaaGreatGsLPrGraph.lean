/- ProcGraph. -/
import Derived.Test.YtpefngbfgjfcgaaGreatGsL18
import Derived.Test.YtpefngbfgjfcgaaGreatGsTxProcGraph
set_option linter.unusedSimpArgs false
set_option linter.unusedVariables false
namespace Go.Proofs.YtpefngbfgjfcgaaGreat
open Go Go.Gl
variable {ρ0 ρ : FR} {L L' : List Asn} {Post : Value → List Asn → Prop} {T : Tree}
theorem law_procgraph (s : Slc) (ns : List Int) (z1 : Slc) (v1 : List Int) (z2 : Slc) (v2 : List Int) (c f r : Int) (all : Bool) (n : Int) (hc : 0 ≤ c ∧ c < 256) (hf : 0 ≤ f ∧ f < 256) (hr : 0 ≤ r ∧ r < 256) (hn : 0 ≤ n ∧ n < 256)
  (ro : RoS ρ s 1 (ns.map fun x => .int .u8 x)) (hb : ∀ x ∈ ns, (Lit.int .u8 x).wf = true) (hl : ns.length < 2 ^ 63) (ro1 : RoS ρ z1 1 (v1.map fun x => .int .u8 x)) (hb1 : ∀ x ∈ v1, (Lit.int .u8 x).wf = true) (hl1 : v1.length < 2 ^ 63) (ro2 : RoS ρ z2 1 (v2.map fun x => .int .u8 x)) (hb2 : ∀ x ∈ v2, (Lit.int .u8 x).wf = true) (hl2 : v2.length < 2 ^ 63) :
  Gl.Spec ρ Tryz.prog 3 [.slice s.a s.n s.c, .slice z1.a z1.n z1.c, .slice z2.a z2.n z2.c, .int .u8 c, .int .u8 f, .int .u8 r, .bool all, .int .u8 n] [] RB fun r M => r = true ∧ M = [] := by
 refine Spec.of (fun Q w h => F.gloaminglaw18.ProcGraph.calls s z1 z2 c f r all n h) fun R => ?_
 unfold F.gloaminglaw18.ProcGraph
 try simp only [List.cons_append, List.nil_append]
 have hb := u8_all hb
 have hb1 := u8_all hb1
 have hb2 := u8_all hb2
 refine en_call (g_graph s ns ro hb hl) tks ?_
 rintro x' M ⟨p, q, rfl, rfl⟩
 try simp only [List.cons_append, List.nil_append]
 refine en_call (g_model s ns ro hb hl) tks ?_
 rintro x' M ⟨p2, q2, lc, hcs, hln, rfl, rfl⟩
 try simp only [List.cons_append, List.nil_append]
 refine en_brf rfl ?_
 have hok := Gr.graph_ok hb
 have hgood := Gr.heads_good hb
 have hkeys := Gr.graph_keys hb
 have hst : ∀ r ∈ refsOf (Gr.graph ns).1, r.2.2.2.2.1 < 9223372036854775808 := fun r hr => by
  obtain ⟨_, _, _, _, _, _, _, _, h⟩ := Gr.graph_refs hb hr
  exact Int.lt_trans h (by decide)
 generalize Gr.heads ns = hs at hok hgood
 generalize (Gr.graph ns).2 = l at *
 generalize (Gr.graph ns).1 = G at *
 have hlen := hok.hw.wf.len
 have hmost := hok.hw.wf.most
 have hwG := hok.hw
 rw [← hcs] at hwG
 have hkn := hok.kn hgood
 rw [← hcs] at hkn
 have hcls : ∀ c ∈ csO lc, c.2.length ≤ 1023 := fun c hc => by
  rw [hcs] at hc
  have : c = (3, [0, 2]) := by simpa [Gr.cs] using hc
  rw [this]; decide
 refine Tr.keepSL (s := q) tk fun ρ1 hle1 hr1 => ?_
 refine Tr.drop (A := SLc q2 1 (l.map i64)) tk ?_
 replace ro1 := ro1.le hle1
 replace ro2 := ro2.le hle1
 refine en_call (g_in q l hr1 z1 v1 ro1 hb1 z2 v2 ro2 hb2 c f r all n hc hf hr hn) tks ?_
 rintro x' M ⟨s1, s2, rfl, rfl⟩
 try simp only [List.cons_append, List.nil_append]
 refine en_nw fun b4 => ?_
 rw [zcIn]
 refine en_st (b := b4) (off := 0) rfl tk (by simp) rfl ?_
 refine Tr.take (A := blk b4 (inC ⟨s1, s2, c, f % 20, r % 9, all, 1 + n % 9⟩)) tk ?_
 refine en_ldg (b := b4) (off := 0) (x := inT ⟨s1, s2, c, f % 20, r % 9, all, 1 + n % 9⟩) [] rfl tk rfl ?_
 refine Tr.keepSL (s := s1) tk fun ρ2 hle2 hro => ?_
 refine Tr.keepSL (s := s2) tk fun ρ3 hle3 hfi => ?_
 replace hro := hro.le hle3
 have hxl1 : (Gr.some l v1 5).length < 2 ^ 30 := by unfold Gr.some; simp; omega
 have hxl2 : (Gr.some l v2 5).length < 2 ^ 30 := by unfold Gr.some; simp; omega
 generalize hx : (⟨s1, s2, c, f % 20, r % 9, all, 1 + n % 9⟩ : In7) = x at *
 have hxo : x.Ok := by rw [← hx]; exact ⟨by dsimp only; omega, by dsimp only; omega, by dsimp only; omega⟩
 have hxs : 1 ≤ x.stack ∧ x.stack ≤ 4096 := by rw [← hx]; dsimp only; omega
 have e1 : x.ro = s1 := by rw [← hx]
 have e2 : x.fi = s2 := by rw [← hx]
 rw [← e1] at hro
 rw [← e2] at hfi
 clear hx e1 e2
 generalize Gr.some l v1 5 = ros at *
 generalize Gr.some l v2 5 = fs at *
 refine en_call (proc_process p G Gr.cs hok.hw x hxo ros fs hro hfi hxl1 hxl2 hst hxs) tks ?_
 rintro r6 M ⟨t1, t2, t3, t4, l9, m2, m3, rfl, hC, rfl⟩
 try simp only [List.cons_append, List.nil_append]
 refine en_nw fun b7 => ?_
 rw [zcOut]
 refine en_st (b := b7) (off := 0) rfl tk (by simp) rfl ?_
 refine Tr.take (A := blk b7 [.slice t1.a t1.n t1.c, .slice t2.a t2.n t2.c, .slice t3.a t3.n t3.c, .slice t4.a t4.n t4.c]) tk ?_
 refine en_drw (en_held [blk b7 [.slice t1.a t1.n t1.c, .slice t2.a t2.n t2.c, .slice t3.a t3.n t3.c, .slice t4.a t4.n t4.c], blk b4 (inC x)] tks ?_)
 iterate 1
  refine en_call (law_err _) .nil ?_
  rintro x' M ⟨rfl, rfl⟩
  try simp only [List.cons_append, List.nil_append]
 refine en_chk tks (en_cut [blk b7 [.slice t1.a t1.n t1.c, .slice t2.a t2.n t2.c, .slice t3.a t3.n t3.c, .slice t4.a t4.n t4.c], blk b4 (inC x)] tks (fun w h => h) ?_)
 refine en_brt rfl ?_
 refine en_ldgS (b := b7) (off := 0) (x := ((t1, t2, t3, t4, ()) : LTs OutL)) [] rfl tk rfl ?_
 refine en_ldgS (b := b4) (off := 0) (x := inT x) [] rfl tk rfl ?_
 refine en_call (rm_process p2 G lc hwG hkn hln hcls hkeys x hxo ros fs hro hfi hxl1 hxl2 hst) tks ?_
 rintro r13 M ⟨u1, u2, u3, u4, l8, k2, k3, rfl, hC', rfl⟩
 try simp only [List.cons_append, List.nil_append]
 rw [hcs] at hC'
 obtain ⟨e1, e2, e3⟩ := Coll.eq hkeys ⟨rfl, rfl, rfl, rfl⟩ hC hC'
 subst e1 e2 e3
 refine en_chk tks ?_
 have hfew := hC.few hok.hw
 have n1 := clr_le (S := G) (m2 := m2) (m3 := m3) (l := l9)
 have n2 := put_len (S := G) (m := m3) (xs := clrOf G m2 m3 l9)
 have n3 := pend_le (S := G) (m := m2) (fs := fs)
 have n4 := Mk.all_len (m := m3)
 have hm3 := hC.c3.len
 refine Tr.keepSL (s := t1) tk fun ρ4 hle4 a1 => Tr.keepSL (s := t2) tk fun ρ5 hle5 a2 => Tr.keepSL (s := t3) tk fun ρ6 hle6 a3 => Tr.keepSL (s := t4) tk fun ρ7 hle7 a4 => ?_
 refine Tr.keepSL (s := u1) tk fun ρ8 hle8 g1 => Tr.keepSL (s := u2) tk fun ρ9 hle9 g2 => Tr.keepSL (s := u3) tk fun ρa hlea g3 => Tr.keepSL (s := u4) tk fun ρb hleb g4 => ?_
 have q9 := hlea.trans hleb
 have q8 := hle9.trans q9
 have q7 := hle8.trans q8
 have q6 := hle7.trans q7
 have q5 := hle6.trans q6
 have q4 := hle5.trans q5
 refine en_call (same_out t1 t2 t3 t4 u1 u2 u3 u4 _ _ _ _ (a1.le q4) (a2.le q5) (a3.le q6) (a4.le q7) (g1.le q8) (g2.le q9) (g3.le hleb) g4 (by omega) (by omega) (by omega) (by omega)) .nil ?_
 rintro x' M ⟨rfl, rfl⟩
 try simp only [List.cons_append, List.nil_append]
 refine en_brt rfl ?_
 obtain ⟨ho1, ho2⟩ := objs_small hok.hw
 refine en_call (object_objects p G Gr.cs hok.hw) tks ?_
 rintro s6 M ⟨rfl, hn6⟩
 try simp only [List.cons_append, List.nil_append]
 refine en_call (rh_objects p2 G lc hwG) tks ?_
 rintro s7 M ⟨rfl, hn7⟩
 try simp only [List.cons_append, List.nil_append]
 refine Tr.keepObs (s := s6) (os := Ob.objs G) tk fun ρc hlec hobs => ?_
 refine Tr.keepObs (s := s7) (os := Ob.objs G) tk fun ρd hled hobs2 => ?_
 refine en_call (same_objs s6 s7 (Ob.objs G) (RoObs.le hobs hled) hobs2 ho1 ho2) .nil ?_
 rintro x' M ⟨rfl, rfl⟩
 try simp only [List.cons_append, List.nil_append]
 refine en_brt rfl ?_
 refine en_call (law_awake18) tks ?_
 rintro x' M ⟨rfl, rfl⟩
 try simp only [List.cons_append, List.nil_append]
 exact en_rets (x := true) rfl ⟨rfl, rfl⟩ tks ens
end Go.Proofs.YtpefngbfgjfcgaaGreat
