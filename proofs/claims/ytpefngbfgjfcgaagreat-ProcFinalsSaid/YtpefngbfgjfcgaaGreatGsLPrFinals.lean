/- ProcFinals. -/
import Derived.Test.YtpefngbfgjfcgaaGreatGsLPrClears
import Derived.Test.YtpefngbfgjfcgaaGreatGsTxProcFinals
set_option linter.unusedSimpArgs false
set_option linter.unusedVariables false
namespace Go.Proofs.YtpefngbfgjfcgaaGreat
open Go Go.Gl
variable {ρ0 ρ : FR} {L L' : List Asn} {Post : Value → List Asn → Prop} {T : Tree}
theorem law_procfinals (s : Slc) (ns : List Int) (z1 : Slc) (v1 : List Int) (z2 : Slc) (v2 : List Int) (c f r : Int) (all : Bool) (hc : 0 ≤ c ∧ c < 256) (hf : 0 ≤ f ∧ f < 256) (hr : 0 ≤ r ∧ r < 256)
  (ro : RoS ρ s 1 (ns.map fun x => .int .u8 x)) (hb : ∀ x ∈ ns, (Lit.int .u8 x).wf = true) (hl : ns.length < 2 ^ 63) (ro1 : RoS ρ z1 1 (v1.map fun x => .int .u8 x)) (hb1 : ∀ x ∈ v1, (Lit.int .u8 x).wf = true) (hl1 : v1.length < 2 ^ 63) (ro2 : RoS ρ z2 1 (v2.map fun x => .int .u8 x)) (hb2 : ∀ x ∈ v2, (Lit.int .u8 x).wf = true) (hl2 : v2.length < 2 ^ 63) :
  Gl.Spec ρ Tryz.prog 6 [.slice s.a s.n s.c, .slice z1.a z1.n z1.c, .slice z2.a z2.n z2.c, .int .u8 c, .int .u8 f, .int .u8 r, .bool all] [] RB fun r M => r = true ∧ M = [] := by
 refine Spec.of (fun Q w h => F.gloaminglaw18.ProcFinals.calls s z1 z2 c f r all h) fun R => ?_
 unfold F.gloaminglaw18.ProcFinals
 try simp only [lca, lna]
 have hb := u8_all hb
 have hb1 := u8_all hb1
 have hb2 := u8_all hb2
 refine en_call (g_graph s ns ro hb hl) tks ?_
 rintro x' M ⟨p, q, rfl, rfl⟩
 try simp only [lca, lna]
 refine en_brf rfl ?_
 have hok := Gr.graph_ok hb
 have hgood := Gr.heads_good hb
 have hhl := Gr.heads_len (ns := ns)
 have hst : ∀ r ∈ refsOf (Gr.graph ns).1, r.2.2.2.2.1 < 9223372036854775808 := fun r hr => by
  obtain ⟨_, _, _, _, _, _, _, _, h⟩ := Gr.graph_refs hb hr
  exact Int.lt_trans h (by decide)
 generalize Gr.heads ns = hs at hok hgood hhl
 generalize (Gr.graph ns).2 = l at *
 generalize (Gr.graph ns).1 = G at *
 have hlen := hok.hw.wf.len
 have hmost := hok.hw.wf.most
 have hll := hok.len
 have hrl := hok.refs_le hgood
 have hel : (Sp.each G).length ≤ 24 := by rw [hok.each.length_eq]; omega
 have hobj := fun a => hok.obj (a := a)
 refine Tr.keepSL (s := q) tk fun ρ1 hle1 hr1 => ?_
 replace ro1 := ro1.le hle1
 replace ro2 := ro2.le hle1
 refine en_call (g_in q l hr1 z1 v1 ro1 hb1 z2 v2 ro2 hb2 c f r all 3 hc hf hr (by decide)) tks ?_
 rintro x' M ⟨s1, s2, rfl, rfl⟩
 try simp only [lca, lna]
 refine en_nw fun b3 => ?_
 rw [zcIn, zcOut]
 refine en_st (b := b3) (off := 0) rfl tk (by simp) rfl ?_
 refine Tr.take (A := blk b3 (inC ⟨s1, s2, c, f % 20, r % 9, all, 1 + 3 % 9⟩)) tk ?_
 refine en_ldg (b := b3) (off := 0) (x := inT ⟨s1, s2, c, f % 20, r % 9, all, 1 + 3 % 9⟩) [] rfl tk rfl ?_
 refine Tr.keepSL (s := s1) tk fun ρ2 hle2 hro => ?_
 refine Tr.keepSL (s := s2) tk fun ρ3 hle3 hfi => ?_
 replace hro := hro.le hle3
 replace hr1 := (hr1.le hle2).le hle3
 have hxl1 : (Gr.some l v1 5).length ≤ 5 := by unfold Gr.some; simp; omega
 have hxl2 : (Gr.some l v2 5).length ≤ 5 := by unfold Gr.some; simp; omega
 generalize Gr.some l v1 5 = ros at *
 generalize Gr.some l v2 5 = fs at *
 refine en_call (proc_process p G Gr.cs hok.hw ⟨s1, s2, c, f % 20, r % 9, all, 1 + 3 % 9⟩ ⟨by dsimp only; omega, by dsimp only; omega, by dsimp only; omega⟩ ros fs hro hfi (by omega) (by omega) hst (by dsimp only; omega)) tks ?_
 rintro r5 M ⟨t1, t2, t3, t4, l9, m2, m3, rfl, hC, rfl⟩
 try simp only [lca, lna]
 refine en_nw fun b6 => ?_
 refine en_st (b := b6) (off := 0) rfl tk (by simp) rfl ?_
 refine Tr.take (A := blk b6 (outC t1 t2 t3 t4)) tk ?_
 have hfew := hC.few hok.hw
 have n1 := clr_le (S := G) (m2 := m2) (m3 := m3) (l := l9)
 have n4 := Mk.all_len (m := m3)
 have hm3 := hC.c3.len
 iterate 1
  refine en_call (law_err _) .nil ?_
  rintro x' M ⟨rfl, rfl⟩
  try simp only [lca, lna]
 refine en_brf rfl ?_
 refine en_ld (k := .slice) (b := b3) (off := 0) (x := s1) (by rw [fa_mk]) tk rfl ?_
 refine en_call (g_reach p G Gr.cs hok.hw s1 ros hro 5 hrl (by decide) (by omega)) tks ?_
 rintro r9 M ⟨strong, rfl, hstr, hstl⟩
 try simp only [lca, lna]
 refine Tr.keepSL (s := r9) tk fun ρ4 hle4 hr9 => Tr.keepSL (s := t1) tk fun ρ5 hle5 a1 => Tr.keepSL (s := t2) tk fun ρa hlea a2 => Tr.keepSL (s := t3) tk fun ρb hleb a3 => Tr.keepSL (s := t4) tk fun ρ6 hle6 a4 => ?_
 have q3 := hleb.trans hle6
 have q2 := hlea.trans q3
 have q1 := hle5.trans q2
 replace hr9 := hr9.le q1
 replace a1 := a1.le q2
 replace a2 := a2.le q3
 replace a3 := a3.le hle6
 have q0 := hle4.trans q1
 replace hr1 := hr1.le q0
 replace hro := hro.le q0
 replace hfi := hfi.le q0
 have l01 := (((hle1.trans hle2).trans hle3).trans q0)
 have e2 := a1.len
 have e4 := a4.len
 have eq := hr1.len
 have e1 := a1.len
 have e2 := a2.len
 have e3 := a3.len
 have e4 := a4.len
 have eq := hr1.len
 have e9 := hr9.len
 have hpl := pend_le (S := G) (m := m2) (fs := fs)
 have hpul := put_len (S := G) (m := m3) (xs := clrOf G m2 m3 l9)
 have hlive : ∀ a, a ∈ Mk.all m3 ↔ Sp.has m3 a = true := fun a => Mk.mem_all
 have hpend : ∀ a, a ∈ pendOf G m2 fs ↔ (a ∈ fs ∧ Mk.obj G a ∧ ¬ Sp.has m2 a = true) := fun a => mem_pendOf
 have hput : ∀ a ∈ putOf G m3 (clrOf G m2 m3 l9), a ∈ clrOf G m2 m3 l9 ∧ Sp.has m3 a = true ∧ (Ob.get G a 1).1 > 0 := fun a ha => by
  unfold putOf at ha
  rw [List.mem_filter, Bool.and_eq_true, decide_eq_true_iff] at ha
  exact ⟨ha.1, ha.2.1, ha.2.2⟩
 have hstr2 : ∀ a ∈ strong, Sp.has m2 a = true := fun a ha => (hC.has2 a).mpr (.base ((hstr a).mp ha))
 have h23 : ∀ a, Sp.has m2 a = true → Sp.has m3 a = true := fun a h => (hC.has3 a).mpr (.inl h)
 have hsoft : ∀ r ∈ refsOf G, r.2.1 = 1 → Sp.has m2 r.2.2.1 = true → r.1 ∉ clrOf G m2 m3 l9 := fun r hr h1 h2 hin => by
  have hin2 : ∃ r' ∈ l9, r'.1 = r.1 ∧ ((r'.2.1 = 1 ∨ r'.2.1 = 2) ∧ lostB G m2 r' = true ∨ r'.2.1 = 3) := by
   rcases List.mem_append.mp hin with h | h
   ·obtain ⟨r', g1, g2, g3, g4⟩ := mem_clear.mp h
    exact ⟨r', g1, g2, .inl ⟨by simpa using g3, g4⟩⟩
   ·obtain ⟨r', g1, g2, g3, g4⟩ := mem_clear.mp h
    exact ⟨r', g1, g2, .inr (by simpa using g3)⟩
  obtain ⟨r', g1, g2, g3⟩ := hin2
  have := refs_by hok.hw (hC.perm.mem_iff.mp g1) hr g2
  subst this
  rcases g3 with ⟨_, g3⟩ | g3
  ·exact (lost_iff.mp g3).2 h2
  ·rw [h1] at g3; cases g3
 have hcompl : ∀ (some kept : List Int), (∀ a, Mk.Rch G Gr.cs (ros ++ pendOf G m2 fs) a → a ∈ some) → (∀ r ∈ refsOf G, r.2.1 = 1 → r.1 ∈ Mk.all m3 → r.1 ∉ clrOf G m2 m3 l9 → r.2.2.1 ≠ 0 → r.2.2.1 ∈ kept) → ∀ a, Sp.has m3 a = true → Mk.Rch G Gr.cs (some ++ kept) a := fun some kept hs hk a ha => by
  have hob := hC.c3.obj a ha
  rcases (hC.has3 a).mp ha with h | h
  ·have h := (hC.has2 a).mp h
   cases h with
   | base h => exact .root (List.mem_append_left _ (hs a (Mk.rch_app.mpr (.inl h)))) hob
   | @keep r _ hr h1 h2 h3 h4 ho hra =>
    have k2 : Sp.has m2 r.1 = true := (hC.has2 _).mpr h3
    have k3 : Sp.has m2 r.2.2.1 = true := (hC.has2 _).mpr (.keep hr h1 h2 h3 h4 ho (.root (by simp) ho))
    have hin := hk r hr h1 ((hlive _).mpr (h23 _ k2)) (hsoft r hr h1 k3) (fun e => by rw [e] at ho; exact Mk.obj_zero hok.hw ho)
    exact Mk.rch_mono (fun b hb => by rw [List.mem_singleton] at hb; rw [hb]; exact List.mem_append_right _ hin) hra
  ·exact .root (List.mem_append_left _ (hs a (Mk.rch_app.mpr (.inr h)))) hob
 have hrin : ∀ y ∈ l, ∀ hd, Ob.head G y = some hd → hd.k = 4 → rfAt G hd y ∈ refsOf G := fun y _ hd hh hk => (mem_refsOf hok.hw).mpr ⟨hd, hh, hk, rfl⟩
 have hrl2 : ∀ r ∈ refsOf G, r.1 ∈ l ∧ ∃ hd, Ob.head G r.1 = some hd ∧ hd.k = 4 ∧ r = rfAt G hd r.1 := fun r hr => by
  obtain ⟨hd, h1, h2, h3⟩ := (mem_refsOf hok.hw).mp hr
  exact ⟨(hobj _).mp (by unfold Mk.obj; rw [h1]; rfl), hd, h1, h2, h3⟩
 have hpr : ∀ a, Mk.Rch G Gr.cs (ros ++ pendOf G m2 fs) a → Sp.has m3 a = true := fun a h => by
  rcases Mk.rch_app.mp h with h | h
  ·exact h23 a ((hC.has2 a).mpr (.base h))
  ·exact (hC.has3 a).mpr (.inr h)
 generalize putOf G m3 (clrOf G m2 m3 l9) = put at *
 generalize clrOf G m2 m3 l9 = cl at *
 generalize pendOf G m2 fs = pend at *
 generalize Mk.all m3 = live at *
 refine Tr.take (A := HeapA p G Gr.cs) tk (Tr.take (A := blk b3 (inC ⟨s1, s2, c, f % 20, r % 9, all, 1 + 3 % 9⟩)) tk (Tr.take (A := blk b6 (outC t1 t2 t3 t4)) tk ?_))
 refine en_lp (fun n u M => (fun i : Int => M = blk b6 (outC t1 t2 t3 t4) :: blk b3 (inC ⟨s1, s2, c, f % 20, r % 9, all, 1 + 3 % 9⟩) :: HeapA p G Gr.cs :: R ∧ 0 ≤ i ∧ i ≤ strong.length ∧ n = strong.length - i.toNat) u.1) strong.length ?_ ?_
 ·exact ⟨rfl, by simp, by dsimp only; omega, by simp⟩
 ·rintro n ⟨(i : Int), ⟨⟩⟩ M ⟨rfl, i0, i1, rfl⟩ X hX
  dsimp only at i0 i1 hX ⊢
  refine en_br (fun h => ?_) (fun h => ?_)
  ·replace h : i < (r9.n : Int) := of_decide_eq_true h
   have hi : i.toNat < strong.length := by omega
   have hin : strong.getD i.toNat 0 ∈ strong := by rw [List.getD_eq_getElem?_getD, List.getElem?_eq_getElem hi]; exact List.getElem_mem hi
   have hx2 := hstr2 _ hin
   refine en_drw (en_held [blk b6 (outC t1 t2 t3 t4)] tks ?_)
   refine en_ldS (k := .slice) (b := b6) (off := 3) (x := t4) (by rw [fa_mk]) tk rfl ?_
   refine en_getRoS hr9 i0 (by omega) ?_
   refine en_call (ref_in t4 live a4 (by omega) (strong.getD i.toNat 0)) tks ?_
   rintro x' M ⟨rfl, rfl⟩
   try simp only [lca, lna]
   refine en_chk tks (en_cut [blk b6 (outC t1 t2 t3 t4)] tks (fun w h => h) ?_)
   refine en_brf (by rw [decide_eq_true ((hlive _).mpr (h23 _ hx2))]; rfl) ?_
   refine en_ldS (k := .slice) (b := b6) (off := 2) (x := t3) (by rw [fa_mk]) tk rfl ?_
   refine en_getRoS hr9 i0 (by omega) ?_
   refine en_call (ref_in t3 pend a3 (by omega) (strong.getD i.toNat 0)) tks ?_
   rintro x' M ⟨rfl, rfl⟩
   try simp only [lca, lna]
   refine en_brf (decide_eq_false fun e => ((hpend _).mp e).2.2 hx2) ?_
   rw [wrap64 (n := i + 1) (by omega) (by omega)]
   exact hX (strong.length - (i + 1).toNat) _ _ (by omega) ⟨rfl, by dsimp only; omega, by dsimp only; omega, rfl⟩
  ·clear hX h i0 i1 i
   refine en_drw (en_held [blk b6 (outC t1 t2 t3 t4), blk b3 (inC ⟨s1, s2, c, f % 20, r % 9, all, 1 + 3 % 9⟩)] tks ?_)
   refine en_ldS (k := .slice) (b := b3) (off := 0) (x := s1) (by rw [fa_mk]) tk rfl ?_
   refine en_ldS (k := .slice) (b := b6) (off := 2) (x := t3) (by rw [fa_mk]) tk rfl ?_
   refine en_nw fun b15 => en_chk tks ?_
   refine Tr.imp (A := blk b15 []) (A' := SLc ⟨some ⟨b15, 0, none⟩, 0, 0⟩ 1 (([] : List Int).map i64)) tk (SLc.emp b15 1) ?_
   refine en_appS (s := ⟨some ⟨b15, 0, none⟩, 0, 0⟩) (x := s1) (xs := []) (ys := ros) appInt tk (Rd.ro hro) (by rw [List.length_nil]; omega) fun r16 h16 => ?_
   rw [List.nil_append]
   refine en_chk tks ?_
   refine en_appS (s := r16) (x := t3) (xs := ros) (ys := pend) appInt tk (Rd.ro a3) (by omega) fun r17 h17 => ?_
   refine Tr.keepSL (s := r17) tk fun ρ7 hle7 hr17 => ?_
   refine en_call (g_reach p G Gr.cs hok.hw r17 (ros ++ pend) hr17 5 hrl (by decide) (by rw [List.length_append]; omega)) tks ?_
   rintro r18 M ⟨some, rfl, hsome, hsl⟩
   try simp only [lca, lna]
   refine Tr.keepSL (s := r18) tk fun ρ8 hle8 hr18 => ?_
   have q8 := hle7.trans hle8
   replace hr1 := hr1.le q8
   replace a1 := a1.le q8
   replace a2 := a2.le q8
   replace a3 := a3.le q8
   replace a4 := a4.le q8
   replace hfi := hfi.le q8
   have l08 := l01.trans q8
   clear hr9 hro
   have e18 := hr18.len
   refine Tr.take (A := blk b3 (inC ⟨s1, s2, c, f % 20, r % 9, all, 1 + 3 % 9⟩)) tk (Tr.take (A := blk b6 (outC t1 t2 t3 t4)) tk ?_)
   refine en_lp (fun n u M => (fun i : Int => M = blk b6 (outC t1 t2 t3 t4) :: blk b3 (inC ⟨s1, s2, c, f % 20, r % 9, all, 1 + 3 % 9⟩) :: HeapA p G Gr.cs :: R ∧ 0 ≤ i ∧ i ≤ some.length ∧ n = some.length - i.toNat) u.1) some.length ?_ ?_
   ·exact ⟨rfl, by simp, by dsimp only; omega, by simp⟩
   ·rintro n ⟨(i : Int), ⟨⟩⟩ M ⟨rfl, i0, i1, rfl⟩ X hX
    dsimp only at i0 i1 hX ⊢
    refine en_br (fun h => ?_) (fun h => ?_)
    ·replace h : i < (r18.n : Int) := of_decide_eq_true h
     have hi : i.toNat < some.length := by omega
     have hin : some.getD i.toNat 0 ∈ some := by rw [List.getD_eq_getElem?_getD, List.getElem?_eq_getElem hi]; exact List.getElem_mem hi
     refine en_drw ?_
     refine en_ld (k := .slice) (b := b6) (off := 3) (x := t4) (by rw [fa_mk]) tk rfl ?_
     refine en_getRo hr18 i0 (by omega) ?_
     refine en_call (ref_in t4 live a4 (by omega) (some.getD i.toNat 0)) tks ?_
     rintro x' M ⟨rfl, rfl⟩
     try simp only [lca, lna]
     refine en_brf (by rw [decide_eq_true ((hlive _).mpr (hpr _ ((hsome _).mp hin)))]; rfl) ?_
     rw [wrap64 (n := i + 1) (by omega) (by omega)]
     exact hX (some.length - (i + 1).toNat) _ _ (by omega) ⟨rfl, by dsimp only; omega, by dsimp only; omega, rfl⟩
    ·clear hX h i0 i1 i
     refine Tr.nilSL 1 ?_
     refine en_lp (fun n u M => (fun (tk' : Slc) (i : Int) => ∃ kept : List Int, M = SLc tk' 1 (kept.map i64) :: blk b6 (outC t1 t2 t3 t4) :: blk b3 (inC ⟨s1, s2, c, f % 20, r % 9, all, 1 + 3 % 9⟩) :: HeapA p G Gr.cs :: R ∧ 0 ≤ i ∧ i ≤ l.length ∧ n = l.length - i.toNat ∧ kept.length ≤ i.toNat ∧ ∀ r ∈ refsOf G, r.1 ∈ l.take i.toNat → r.2.1 = 1 → r.1 ∈ live → r.1 ∉ cl → r.2.2.1 ≠ 0 → r.2.2.1 ∈ kept) u.1 u.2.1) l.length ?_ ?_
     ·exact ⟨[], rfl, by simp, by dsimp only; omega, by simp, by simp, by simp⟩
     ·rintro n ⟨(kp : Slc), (i : Int), ⟨⟩⟩ M ⟨kept, rfl, i0, i1, rfl, hkl, hkept⟩ X hX
      dsimp only at i0 i1 hkl hkept hX ⊢
      refine Tr.nlen (s := kp) (xs := kept) tk fun hkp => ?_
      refine en_br (fun h => ?_) (fun h => ?_)
      ·replace h : i < (q.n : Int) := of_decide_eq_true h
       have hi : i.toNat < l.length := by omega
       have ht : l.take (i + 1).toNat = l.take i.toNat ++ [l.getD i.toNat 0] := by rw [show (i + 1).toNat = i.toNat + 1 by omega, take_succ_getD 0 hi]
       have hjn : l.getD i.toNat 0 ∈ l := by rw [List.getD_eq_getElem?_getD, List.getElem?_eq_getElem hi]; exact List.getElem_mem hi
       refine en_getRo hr1 i0 (by omega) ?_
       have hyo := (hobj _).mpr hjn
       generalize hgy : l.getD i.toNat 0 = y at *
       unfold Mk.obj at hyo
       cases hh : Ob.head G y with
       | none => rw [hh] at hyo; cases hyo
       | some hd =>
       have hun : ∀ r ∈ refsOf G, r.1 = y → r.2.1 = hd.c ∧ hd.k = 4 ∧ r.2.2.1 = (Ob.get G y 0).1 := fun r hr e => by
        obtain ⟨_, hd', h1, h2, h3⟩ := hrl2 r hr
        rw [e, hh] at h1
        injection h1 with h1
        subst h1
        rw [h3, e]; exact ⟨rfl, h2, rfl⟩
       have hrr := hrin y hjn hd hh
       obtain ⟨k2, c2, n2, f2⟩ := hd
       dsimp only at hun hrr
       refine en_call (object_head p G Gr.cs hok.hw y) tks ?_
       rintro x' M ⟨rfl, rfl⟩
       try simp only [lca, lna]
       refine en_nw fun b26 => ?_
       rw [hh, zcH, wrap64 (n := i + 1) (by omega) (by omega)]
       dsimp only [Ob.headR, Hd.t]
       refine en_st (b := b26) (off := 0) rfl tk (by simp) rfl ?_
       refine Tr.take (A := blk b26 [.int .i64 k2, .int .i64 c2, .int .i64 n2, .bool f2]) tk ?_
       refine en_getRo hr1 i0 (by omega) ?_
       rw [hgy]
       refine en_call (object_get p G Gr.cs hok.hw y 0) tks ?_
       rintro x' M ⟨rfl, rfl⟩
       try simp only [lca, lna]
       generalize (Ob.get G y 0).1 = o2 at *
       refine Tr.take (A := blk b3 (inC ⟨s1, s2, c, f % 20, r % 9, all, 1 + 3 % 9⟩)) tk (Tr.take (A := blk b6 (outC t1 t2 t3 t4)) tk (Tr.take (A := SLc kp 1 (kept.map i64)) tk (Tr.take (A := blk b26 [.int .i64 k2, .int .i64 c2, .int .i64 n2, .bool f2]) tk ?_)))
       have next : ∀ (kp' : Slc) (kept' : List Int), (∀ a ∈ kept, a ∈ kept') → kept'.length ≤ i.toNat + 1 → (k2 = 4 → c2 = 1 → y ∈ live → y ∉ cl → o2 ≠ 0 → o2 ∈ kept') → Tr ρ ρ8 (SLc kp' 1 (kept'.map i64) :: blk b6 (outC t1 t2 t3 t4) :: blk b3 (inC ⟨s1, s2, c, f % 20, r % 9, all, 1 + 3 % 9⟩) :: HeapA p G Gr.cs :: R) (X (kp', i + 1, ())) (SP RB (fun r M => r = true ∧ M = []) R) := fun kp' kept' g1 g2 g3 => by
        refine hX (l.length - (i + 1).toNat) _ _ (by omega) ⟨kept', rfl, by dsimp only; omega, by dsimp only; omega, rfl, by dsimp only; omega, fun r hr k1 k2' k3 k4 k5 => ?_⟩
        dsimp only at k1
        rw [ht, List.mem_append, List.mem_singleton] at k1
        rcases k1 with k1 | k1
        ·exact g1 _ (hkept r hr k1 k2' k3 k4 k5)
        ·obtain ⟨m1, m2, m3⟩ := hun r hr k1
         rw [m3] at k5 ⊢
         exact g3 m2 (by rw [← m1]; exact k2') (by rw [← k1]; exact k3) (by rw [← k1]; exact k4) k5
       refine en_drw (en_held [blk b26 [.int .i64 k2, .int .i64 c2, .int .i64 n2, .bool f2], blk b6 (outC t1 t2 t3 t4)] tks ?_)
       refine en_ldS (k := .int .i64) (b := b26) (off := 0) (x := k2) (by rw [fa_mk]) tk rfl ?_
       refine en_br (fun h5 => ?_) (fun h5 => ?_)
       ·refine en_ldS (k := .int .i64) (b := b26) (off := 1) (x := c2) (by rw [fa_mk]) tk rfl ?_
        refine en_br (fun h6 => ?_) (fun h6 => ?_)
        ·refine en_ldS (k := .slice) (b := b6) (off := 3) (x := t4) (by rw [fa_mk]) tk rfl ?_
         refine en_getRoS hr1 i0 (by omega) ?_
         rw [hgy]
         refine en_call (ref_in t4 live a4 (by omega) y) tks ?_
         rintro x' M ⟨rfl, rfl⟩
         try simp only [lca, lna]
         refine en_chk tks (en_cut [blk b26 [.int .i64 k2, .int .i64 c2, .int .i64 n2, .bool f2], blk b6 (outC t1 t2 t3 t4)] tks (fun w h => h) ?_)
         refine en_br (fun h7 => ?_) (fun h7 => ?_)
         ·refine en_ldS (k := .slice) (b := b6) (off := 0) (x := t1) (by rw [fa_mk]) tk rfl ?_
          refine en_getRoS hr1 i0 (by omega) ?_
          rw [hgy]
          refine en_call (ref_in t1 cl a1 (by omega) y) tks ?_
          rintro x' M ⟨rfl, rfl⟩
          try simp only [lca, lna]
          refine en_br (fun h8 => ?_) (fun h8 => ?_)
          ·refine en_br (fun h9 => ?_) (fun h9 => ?_)
           ·refine en_appI (s := kp) (xs := kept) appInt tk (by omega) fun r43 h43 => ?_
            refine Tr.drop (A := blk b26 [.int .i64 k2, .int .i64 c2, .int .i64 n2, .bool f2]) tk ?_
            exact next r43 (kept ++ [o2]) (fun a ha => List.mem_append_left _ ha) (by rw [List.length_append, List.length_singleton]; omega) (fun _ _ _ _ _ => by simp)
           ·have h9 : o2 = 0 := by simpa using h9
            exact Tr.drop .here (next kp kept (fun _ h => h) (by omega) fun _ _ _ _ g => absurd h9 g)
          ·have h8 : y ∈ cl := by simpa using h8
           exact Tr.drop .here (next kp kept (fun _ h => h) (by omega) fun _ _ _ g _ => absurd h8 g)
         ·have h7 : y ∉ live := of_decide_eq_false h7
          exact Tr.drop .here (next kp kept (fun _ h => h) (by omega) fun _ _ g _ _ => absurd g h7)
        ·have h6 : c2 ≠ 1 := by simpa using h6
         refine en_cut [blk b26 [.int .i64 k2, .int .i64 c2, .int .i64 n2, .bool f2], blk b6 (outC t1 t2 t3 t4)] tks (fun w h => h) ?_
         exact Tr.drop .here (next kp kept (fun _ h => h) (by omega) fun _ g _ _ _ => absurd g h6)
       ·have h5 : k2 ≠ 4 := by simpa using h5
        refine en_cut [blk b26 [.int .i64 k2, .int .i64 c2, .int .i64 n2, .bool f2], blk b6 (outC t1 t2 t3 t4)] tks (fun w h => h) ?_
        exact Tr.drop .here (next kp kept (fun _ h => h) (by omega) fun g _ _ _ _ => absurd g h5)
      ·replace h : ¬ i < (q.n : Int) := of_decide_eq_false h
       rw [List.take_of_length_le (by omega)] at hkept
       clear hX
       have hmost := hcompl some kept (fun a h => (hsome a).mpr h) (fun r hr h1 h2 h3 h4 => hkept r hr (hrl2 r hr).1 h1 h2 h3 h4)
       refine en_nw fun b23 => ?_
       refine Tr.imp (A := blk b23 []) (A' := SLc ⟨Option.some ⟨b23, 0, none⟩, 0, 0⟩ 1 (([] : List Int).map i64)) tk (SLc.emp b23 1) ?_
       refine en_appS (s := ⟨Option.some ⟨b23, 0, none⟩, 0, 0⟩) (x := r18) (xs := []) (ys := some) appInt tk (Rd.ro hr18) (by rw [List.length_nil]; omega) fun r24 h24 => ?_
       rw [List.nil_append]
       refine en_appS (s := r24) (x := kp) (xs := some) (ys := kept) appInt tk (Rd.sl tk (by simp [hkp])) (by omega) fun r25 h25 => ?_
       refine Tr.keepSL (s := r25) tk fun ρ9 hle9 hr25 => ?_
       refine en_call (g_reach p G Gr.cs hok.hw r25 (some ++ kept) hr25 5 hrl (by decide) (by rw [List.length_append]; omega)) tks ?_
       rintro r26 M ⟨most, rfl, hmost2, hml2⟩
       try simp only [lca, lna]
       refine Tr.keepSL (s := r26) tk fun ρA hleA hr26 => ?_
       have qA := hle9.trans hleA
       replace a1 := a1.le qA
       replace a2 := a2.le qA
       replace a3 := a3.le qA
       replace a4 := a4.le qA
       replace hfi := hfi.le qA
       refine Tr.take (A := HeapA p G Gr.cs) tk (Tr.take (A := blk b3 (inC ⟨s1, s2, c, f % 20, r % 9, all, 1 + 3 % 9⟩)) tk (Tr.take (A := blk b6 (outC t1 t2 t3 t4)) tk (Tr.drop (A := SLc kp 1 (kept.map i64)) tk ?_)))
       clear h i0 i1 hkl hkept i hr1 hr18
       refine en_lp (fun n u M => (fun i : Int => M = blk b6 (outC t1 t2 t3 t4) :: blk b3 (inC ⟨s1, s2, c, f % 20, r % 9, all, 1 + 3 % 9⟩) :: HeapA p G Gr.cs :: R ∧ 0 ≤ i ∧ i ≤ live.length ∧ n = live.length - i.toNat) u.1) live.length ?_ ?_
       ·exact ⟨rfl, by simp, by dsimp only; omega, by simp⟩
       ·rintro n ⟨(i : Int), ⟨⟩⟩ M ⟨rfl, i0, i1, rfl⟩ X hX
        dsimp only at i0 i1 hX ⊢
        refine en_ld (k := .slice) (b := b6) (off := 3) (x := t4) (by rw [fa_mk]) tk rfl ?_
        refine en_br (fun h => ?_) (fun h => ?_)
        ·replace h : i < (t4.n : Int) := of_decide_eq_true h
         have hi : i.toNat < live.length := by omega
         have hin : live.getD i.toNat 0 ∈ live := by rw [List.getD_eq_getElem?_getD, List.getElem?_eq_getElem hi]; exact List.getElem_mem hi
         refine en_ld (k := .slice) (b := b6) (off := 3) (x := t4) (by rw [fa_mk]) tk rfl ?_
         refine en_getRo a4 i0 (by omega) ?_
         refine en_call (ref_in r26 most hr26 (by omega) (live.getD i.toNat 0)) tks ?_
         rintro x' M ⟨rfl, rfl⟩
         try simp only [lca, lna]
         refine en_brf (by rw [decide_eq_true ((hmost2 _).mpr (hmost _ ((hlive _).mp hin)))]; rfl) ?_
         rw [wrap64 (n := i + 1) (by omega) (by omega)]
         exact hX (live.length - (i + 1).toNat) _ _ (by omega) ⟨rfl, by dsimp only; omega, by dsimp only; omega, rfl⟩
        ·clear hX h i0 i1 i
         refine en_lp (fun n u M => (fun i : Int => M = blk b6 (outC t1 t2 t3 t4) :: blk b3 (inC ⟨s1, s2, c, f % 20, r % 9, all, 1 + 3 % 9⟩) :: HeapA p G Gr.cs :: R ∧ 0 ≤ i ∧ i ≤ pend.length ∧ n = pend.length - i.toNat) u.1) pend.length ?_ ?_
         ·exact ⟨rfl, by simp, by dsimp only; omega, by simp⟩
         ·rintro n ⟨(i : Int), ⟨⟩⟩ M ⟨rfl, i0, i1, rfl⟩ X hX
          dsimp only at i0 i1 hX ⊢
          refine en_ld (k := .slice) (b := b6) (off := 2) (x := t3) (by rw [fa_mk]) tk rfl ?_
          refine en_br (fun h => ?_) (fun h => ?_)
          ·replace h : i < (t3.n : Int) := of_decide_eq_true h
           have hi : i.toNat < pend.length := by omega
           have hin : pend.getD i.toNat 0 ∈ pend := by rw [List.getD_eq_getElem?_getD, List.getElem?_eq_getElem hi]; exact List.getElem_mem hi
           obtain ⟨j1, j2, j3⟩ := (hpend _).mp hin
           refine en_drw (en_held [blk b6 (outC t1 t2 t3 t4), blk b3 (inC ⟨s1, s2, c, f % 20, r % 9, all, 1 + 3 % 9⟩)] tks ?_)
           refine en_ldS (k := .slice) (b := b3) (off := 1) (x := s2) (by rw [fa_mk]) tk rfl ?_
           refine en_ldS (k := .slice) (b := b6) (off := 2) (x := t3) (by rw [fa_mk]) tk rfl ?_
           refine en_getRoS a3 i0 (by omega) ?_
           refine en_call (ref_in s2 fs hfi (by omega) (pend.getD i.toNat 0)) tks ?_
           rintro x' M ⟨rfl, rfl⟩
           try simp only [lca, lna]
           refine en_chk tks (en_cut [blk b6 (outC t1 t2 t3 t4), blk b3 (inC ⟨s1, s2, c, f % 20, r % 9, all, 1 + 3 % 9⟩)] tks (fun w h => h) ?_)
           refine en_brf (by rw [decide_eq_true j1]; rfl) ?_
           refine en_ldS (k := .slice) (b := b6) (off := 3) (x := t4) (by rw [fa_mk]) tk rfl ?_
           refine en_ldS (k := .slice) (b := b6) (off := 2) (x := t3) (by rw [fa_mk]) tk rfl ?_
           refine en_getRoS a3 i0 (by omega) ?_
           refine en_call (ref_in t4 live a4 (by omega) (pend.getD i.toNat 0)) tks ?_
           rintro x' M ⟨rfl, rfl⟩
           try simp only [lca, lna]
           refine en_brf (by rw [decide_eq_true ((hlive _).mpr (hpr _ (.root (List.mem_append_right _ hin) j2)))]; rfl) ?_
           rw [wrap64 (n := i + 1) (by omega) (by omega)]
           exact hX (pend.length - (i + 1).toNat) _ _ (by omega) ⟨rfl, by dsimp only; omega, by dsimp only; omega, rfl⟩
          ·clear hX h i0 i1 i
           refine en_lp (fun n u M => (fun i : Int => M = blk b6 (outC t1 t2 t3 t4) :: blk b3 (inC ⟨s1, s2, c, f % 20, r % 9, all, 1 + 3 % 9⟩) :: HeapA p G Gr.cs :: R ∧ 0 ≤ i ∧ i ≤ put.length ∧ n = put.length - i.toNat) u.1) put.length ?_ ?_
           ·exact ⟨rfl, by simp, by dsimp only; omega, by simp⟩
           ·rintro n ⟨(i : Int), ⟨⟩⟩ M ⟨rfl, i0, i1, rfl⟩ X hX
            dsimp only at i0 i1 hX ⊢
            refine en_ld (k := .slice) (b := b6) (off := 1) (x := t2) (by rw [fa_mk]) tk rfl ?_
            refine en_br (fun h => ?_) (fun h => ?_)
            ·replace h : i < (t2.n : Int) := of_decide_eq_true h
             have hi : i.toNat < put.length := by omega
             have hin : put.getD i.toNat 0 ∈ put := by rw [List.getD_eq_getElem?_getD, List.getElem?_eq_getElem hi]; exact List.getElem_mem hi
             obtain ⟨j1, j2, j3⟩ := hput _ hin
             refine en_ld (k := .slice) (b := b6) (off := 1) (x := t2) (by rw [fa_mk]) tk rfl ?_
             refine en_getRo a2 i0 (by omega) ?_
             refine en_call (object_get p G Gr.cs hok.hw (put.getD i.toNat 0) 1) tks ?_
             rintro x' M ⟨rfl, rfl⟩
             try simp only [lca, lna]
             refine Tr.take (A := blk b3 (inC ⟨s1, s2, c, f % 20, r % 9, all, 1 + 3 % 9⟩)) tk (Tr.take (A := blk b6 (outC t1 t2 t3 t4)) tk ?_)
             refine en_drw (en_held [blk b6 (outC t1 t2 t3 t4)] tks ?_)
             refine en_ldS (k := .slice) (b := b6) (off := 3) (x := t4) (by rw [fa_mk]) tk rfl ?_
             refine en_ldS (k := .slice) (b := b6) (off := 1) (x := t2) (by rw [fa_mk]) tk rfl ?_
             refine en_getRoS a2 i0 (by omega) ?_
             refine en_call (ref_in t4 live a4 (by omega) (put.getD i.toNat 0)) tks ?_
             rintro x' M ⟨rfl, rfl⟩
             try simp only [lca, lna]
             refine en_chk tks (en_cut [blk b6 (outC t1 t2 t3 t4)] tks (fun w h => h) ?_)
             refine en_brf (by rw [decide_eq_true ((hlive _).mpr j2)]; rfl) ?_
             refine en_ldS (k := .slice) (b := b6) (off := 0) (x := t1) (by rw [fa_mk]) tk rfl ?_
             refine en_ldS (k := .slice) (b := b6) (off := 1) (x := t2) (by rw [fa_mk]) tk rfl ?_
             refine en_getRoS a2 i0 (by omega) ?_
             refine en_call (ref_in t1 cl a1 (by omega) (put.getD i.toNat 0)) tks ?_
             rintro x' M ⟨rfl, rfl⟩
             try simp only [lca, lna]
             refine en_brf (by rw [decide_eq_true j1]; rfl) ?_
             refine en_brf (decide_eq_false (show ¬ (Ob.get G (put.getD i.toNat 0) 1).1 < 1 by omega)) ?_
             rw [wrap64 (n := i + 1) (by omega) (by omega)]
             exact hX (put.length - (i + 1).toNat) _ _ (by omega) ⟨rfl, by dsimp only; omega, by dsimp only; omega, rfl⟩
            ·refine en_call (law_awake18) tks ?_
             rintro x' M ⟨rfl, rfl⟩
             try simp only [lca, lna]
             exact en_rets (x := true) rfl ⟨rfl, rfl⟩ tks ens
end Go.Proofs.YtpefngbfgjfcgaaGreat
