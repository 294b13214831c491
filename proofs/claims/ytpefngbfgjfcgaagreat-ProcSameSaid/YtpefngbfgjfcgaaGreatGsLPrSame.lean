/- ProcSame. -/
import Derived.Test.YtpefngbfgjfcgaaGreatGsL18
import Derived.Test.YtpefngbfgjfcgaaGreatGsTxProcSame
set_option linter.unusedSimpArgs false
set_option linter.unusedVariables false
namespace Go.Proofs.YtpefngbfgjfcgaaGreat
open Go Go.Gl
variable {ρ0 ρ : FR} {L L' : List Asn} {Post : Value → List Asn → Prop} {T : Tree}
theorem law_procsame (s : Slc) (ns : List Int) (z1 : Slc) (v1 : List Int) (z2 : Slc) (v2 : List Int) (c f r : Int) (all : Bool) (n m : Int) (hc : 0 ≤ c ∧ c < 256) (hf : 0 ≤ f ∧ f < 256) (hr : 0 ≤ r ∧ r < 256) (hn : 0 ≤ n ∧ n < 256) (hm : 0 ≤ m ∧ m < 256)
  (ro : RoS ρ s 1 (ns.map fun x => .int .u8 x)) (hb : ∀ x ∈ ns, (Lit.int .u8 x).wf = true) (hl : ns.length < 2 ^ 63) (ro1 : RoS ρ z1 1 (v1.map fun x => .int .u8 x)) (hb1 : ∀ x ∈ v1, (Lit.int .u8 x).wf = true) (hl1 : v1.length < 2 ^ 63) (ro2 : RoS ρ z2 1 (v2.map fun x => .int .u8 x)) (hb2 : ∀ x ∈ v2, (Lit.int .u8 x).wf = true) (hl2 : v2.length < 2 ^ 63) :
  Gl.Spec ρ Tryz.prog 11 [.slice s.a s.n s.c, .slice z1.a z1.n z1.c, .slice z2.a z2.n z2.c, .int .u8 c, .int .u8 f, .int .u8 r, .bool all, .int .u8 n, .int .u8 m] [] RB fun r M => r = true ∧ M = [] := by
 refine Spec.of (fun Q w h => F.gloaminglaw18.ProcSame.calls s z1 z2 c f r all n m h) fun R => ?_
 unfold F.gloaminglaw18.ProcSame
 try simp only [List.cons_append, List.nil_append]
 have hb := u8_all hb
 have hb1 := u8_all hb1
 have hb2 := u8_all hb2
 refine en_call (g_graph s ns ro hb hl) tks ?_
 rintro x' M ⟨p, q, rfl, rfl⟩
 try simp only [List.cons_append, List.nil_append]
 refine en_brf rfl ?_
 have hok := Gr.graph_ok hb
 have hkeys := Gr.graph_keys hb
 have hst : ∀ r ∈ refsOf (Gr.graph ns).1, r.2.2.2.2.1 < 9223372036854775808 := fun r hr => by
  obtain ⟨_, _, _, _, _, _, _, _, h⟩ := Gr.graph_refs hb hr
  exact Int.lt_trans h (by decide)
 generalize Gr.heads ns = hs at hok
 generalize (Gr.graph ns).2 = l at *
 generalize (Gr.graph ns).1 = G at *
 have hlen := hok.hw.wf.len
 have hmost := hok.hw.wf.most
 refine Tr.keepSL (s := q) tk fun ρ1 hle1 hr1 => ?_
 replace ro1 := ro1.le hle1
 replace ro2 := ro2.le hle1
 refine en_call (g_in q l hr1 z1 v1 ro1 hb1 z2 v2 ro2 hb2 c f r all 0 hc hf hr (by decide)) tks ?_
 rintro x' M ⟨s1, s2, rfl, rfl⟩
 try simp only [List.cons_append, List.nil_append]
 refine en_nw fun b3 => ?_
 rw [zcIn, zcOut]
 refine en_st (b := b3) (off := 0) rfl tk (by simp) rfl ?_
 refine Tr.take (A := blk b3 (inC ⟨s1, s2, c, f % 20, r % 9, all, 1 + 0 % 9⟩)) tk ?_
 refine en_need (by decide) ?_
 rw [wrap64 (n := n) (by omega) (by omega), wrap64 (n := m) (by omega) (by omega), Int.tmod_eq_emod_of_nonneg hn.1, wrap64 (n := 1 + n % 7) (by omega) (by omega), wrap64 (n := 4096 - m) (by omega) (by omega)]
 refine en_st (b := b3) (off := 6) rfl tk (by simp) rfl ?_
 refine Tr.take (A := blk b3 (inC ⟨s1, s2, c, f % 20, r % 9, all, 1 + n % 7⟩)) tk ?_
 refine en_ldg (b := b3) (off := 0) (x := inT ⟨s1, s2, c, f % 20, r % 9, all, 1 + n % 7⟩) [] rfl tk rfl ?_
 refine Tr.keepSL (s := s1) tk fun ρ2 hle2 hro => ?_
 refine Tr.keepSL (s := s2) tk fun ρ3 hle3 hfi => ?_
 replace hro := hro.le hle3
 have hxl1 : (Gr.some l v1 5).length < 2 ^ 30 := by unfold Gr.some; simp; omega
 have hxl2 : (Gr.some l v2 5).length < 2 ^ 30 := by unfold Gr.some; simp; omega
 generalize Gr.some l v1 5 = ros at *
 generalize Gr.some l v2 5 = fs at *
 refine en_call (proc_process p G Gr.cs hok.hw ⟨s1, s2, c, f % 20, r % 9, all, 1 + n % 7⟩ ⟨by dsimp only; omega, by dsimp only; omega, by dsimp only; omega⟩ ros fs hro hfi hxl1 hxl2 hst (by dsimp only; omega)) tks ?_
 rintro r5 M ⟨t1, t2, t3, t4, l9, m2, m3, rfl, hC, rfl⟩
 try simp only [List.cons_append, List.nil_append]
 refine en_nw fun b6 => ?_
 refine en_st (b := b6) (off := 0) rfl tk (by simp) rfl ?_
 refine Tr.take (A := blk b6 [.slice t1.a t1.n t1.c, .slice t2.a t2.n t2.c, .slice t3.a t3.n t3.c, .slice t4.a t4.n t4.c]) tk ?_
 refine en_st (b := b3) (off := 6) rfl tk (by simp) rfl ?_
 refine Tr.take (A := blk b3 (inC ⟨s1, s2, c, f % 20, r % 9, all, 4096 - m⟩)) tk ?_
 refine en_ldg (b := b3) (off := 0) (x := inT ⟨s1, s2, c, f % 20, r % 9, all, 4096 - m⟩) [] rfl tk rfl ?_
 refine en_call (proc_process p G Gr.cs hok.hw ⟨s1, s2, c, f % 20, r % 9, all, 4096 - m⟩ ⟨by dsimp only; omega, by dsimp only; omega, by dsimp only; omega⟩ ros fs hro hfi hxl1 hxl2 hst (by dsimp only; omega)) tks ?_
 rintro r5 M ⟨u1, u2, u3, u4, l8, k2, k3, rfl, hC', rfl⟩
 try simp only [List.cons_append, List.nil_append]
 refine en_nw fun b9 => ?_
 refine en_st (b := b9) (off := 0) rfl tk (by simp) rfl ?_
 refine Tr.take (A := blk b9 [.slice u1.a u1.n u1.c, .slice u2.a u2.n u2.c, .slice u3.a u3.n u3.c, .slice u4.a u4.n u4.c]) tk ?_
 obtain ⟨e1, e2, e3⟩ := Coll.eq (x := ⟨s1, s2, c, f % 20, r % 9, all, 1 + n % 7⟩) (x' := ⟨s1, s2, c, f % 20, r % 9, all, 4096 - m⟩) hkeys ⟨rfl, rfl, rfl, rfl⟩ hC hC'
 subst e1 e2 e3
 have hfew := hC.few hok.hw
 have n1 := clr_le (S := G) (m2 := m2) (m3 := m3) (l := l9)
 have n2 := put_len (S := G) (m := m3) (xs := clrOf G m2 m3 l9)
 have n3 := pend_le (S := G) (m := m2) (fs := fs)
 have n4 := Mk.all_len (m := m3)
 have hm3 := hC.c3.len
 refine Tr.keepSL (s := t1) tk fun ρ4 hle4 a1 => Tr.keepSL (s := t2) tk fun ρ5 hle5 a2 => Tr.keepSL (s := t3) tk fun ρ6 hle6 a3 => Tr.keepSL (s := t4) tk fun ρ7 hle7 a4 => ?_
 refine Tr.keepSL (s := u1) tk fun ρ8 hle8 g1 => Tr.keepSL (s := u2) tk fun ρ9 hle9 g2 => Tr.keepSL (s := u3) tk fun ρa hlea g3 => Tr.keepSL (s := u4) tk fun ρb hleb g4 => ?_
 have q9 := hlea.trans hleb
 have q8 := hle9.trans q9
 have q7 := hle8.trans q8
 have q6 := hle7.trans q7
 have q5 := hle6.trans q6
 have q4 := hle5.trans q5
 iterate 2
  refine en_call (law_err _) .nil ?_
  rintro x' M ⟨rfl, rfl⟩
  try simp only [List.cons_append, List.nil_append]
 refine en_brt rfl ?_
 refine en_ld (k := .slice) (b := b6) (off := 0) (x := t1) (by rw [fa_mk]) tk rfl ?_
 refine en_ld (k := .slice) (b := b9) (off := 0) (x := u1) (by rw [fa_mk]) tk rfl ?_
 refine en_call (same_ints t1 u1 _ _ (a1.le q4) (g1.le q8) (by omega)) .nil ?_
 rintro x' M ⟨rfl, rfl⟩
 try simp only [List.cons_append, List.nil_append]
 refine en_brt (by simp) ?_
 refine en_ld (k := .slice) (b := b6) (off := 1) (x := t2) (by rw [fa_mk]) tk rfl ?_
 refine en_ld (k := .slice) (b := b9) (off := 1) (x := u2) (by rw [fa_mk]) tk rfl ?_
 refine en_call (same_ints t2 u2 _ _ (a2.le q5) (g2.le q9) (by omega)) .nil ?_
 rintro x' M ⟨rfl, rfl⟩
 try simp only [List.cons_append, List.nil_append]
 refine en_brt (by simp) ?_
 refine en_ld (k := .slice) (b := b6) (off := 2) (x := t3) (by rw [fa_mk]) tk rfl ?_
 refine en_ld (k := .slice) (b := b9) (off := 2) (x := u3) (by rw [fa_mk]) tk rfl ?_
 refine en_call (same_ints t3 u3 _ _ (a3.le q6) (g3.le hleb) (by omega)) .nil ?_
 rintro x' M ⟨rfl, rfl⟩
 try simp only [List.cons_append, List.nil_append]
 refine en_brt (by simp) ?_
 refine en_ld (k := .slice) (b := b6) (off := 3) (x := t4) (by rw [fa_mk]) tk rfl ?_
 refine en_ld (k := .slice) (b := b9) (off := 3) (x := u4) (by rw [fa_mk]) tk rfl ?_
 refine en_call (same_ints t4 u4 _ _ (a4.le q7) g4 (by omega)) .nil ?_
 rintro x' M ⟨rfl, rfl⟩
 try simp only [List.cons_append, List.nil_append]
 refine en_brt (by simp) ?_
 refine en_call (law_awake18) tks ?_
 rintro x' M ⟨rfl, rfl⟩
 try simp only [List.cons_append, List.nil_append]
 exact en_rets (x := true) rfl ⟨rfl, rfl⟩ tks ens
end Go.Proofs.YtpefngbfgjfcgaaGreat
