/- ProcClears. -/
import Derived.Test.YtpefngbfgjfcgaaGreatGsReach
import Derived.Test.YtpefngbfgjfcgaaGreatGsTxProcClears
set_option linter.unusedSimpArgs false
set_option linter.unusedVariables false
namespace Go.Proofs.YtpefngbfgjfcgaaGreat
open Go Go.Gl
variable {ρ0 ρ : FR} {L L' : List Asn} {Post : Value → List Asn → Prop} {T : Tree}
theorem may_ref {h : Hd} (hm : Sp.mayH h = true) (hk : h.k = 4) : 1 ≤ h.c ∧ h.c ≤ 3 := by
 unfold Sp.mayH at hm
 rw [if_neg (by omega), if_neg (by omega)] at hm
 simp at hm
 omega
theorem clear_fact {G : Spc} {cs : List Cls} (hw : HWf G cs) {x : In7} {ros fs : List Int} {l9 : List Rf6} {m2 m3 : List Bool} (hC : Coll G cs x ros fs l9 m2 m3) {a : Int} (ha : a ∈ clrOf G m2 m3 l9) :
  ∃ h, Ob.head G a = some h ∧ h.k = 4 ∧ Mk.obj G (Ob.get G a 0).1 ∧ Sp.has m2 (Ob.get G a 0).1 = false ∧ (h.c = 3 → Sp.has m3 (Ob.get G a 0).1 = false) := by
 rcases List.mem_append.mp ha with ha | ha
 ·obtain ⟨r, hr, rfl, hs, hl⟩ := mem_clear.mp ha
  obtain ⟨h, h1, h2, h3⟩ := (mem_refsOf hw).mp (hC.perm.mem_iff.mp hr)
  rw [lost_iff] at hl
  have e : r.2.2.1 = (Ob.get G r.1 0).1 := congrArg (fun r : Rf6 => r.2.2.1) h3
  have ec : r.2.1 = h.c := congrArg (fun r : Rf6 => r.2.1) h3
  rw [e] at hl
  refine ⟨h, h1, h2, hl.1, by simpa using hl.2, fun hc => ?_⟩
  rw [ec, hc] at hs
  simp at hs
 ·obtain ⟨r, hr, rfl, hs, hl⟩ := mem_clear.mp ha
  obtain ⟨h, h1, h2, h3⟩ := (mem_refsOf hw).mp (hC.perm.mem_iff.mp hr)
  rw [lost_iff] at hl
  have e : r.2.2.1 = (Ob.get G r.1 0).1 := congrArg (fun r : Rf6 => r.2.2.1) h3
  rw [e] at hl
  refine ⟨h, h1, h2, hl.1, ?_, fun _ => by simpa using hl.2⟩
  cases h2 : Sp.has m2 (Ob.get G r.1 0).1 with
  | false => rfl
  | true => exact absurd ((hC.has3 _).mpr (.inl h2)) hl.2
theorem clear_in {G : Spc} {cs : List Cls} (hw : HWf G cs) {x : In7} {ros fs : List Int} {l9 : List Rf6} {m2 m3 : List Bool} (hC : Coll G cs x ros fs l9 m2 m3) {a : Int} {h : Hd} (hh : Ob.head G a = some h) (hk : h.k = 4) (hc : h.c ≠ 3) (ho : Mk.obj G (Ob.get G a 0).1) (hm : Sp.has m2 (Ob.get G a 0).1 = false) : a ∈ clrOf G m2 m3 l9 := by
 obtain ⟨_, _, _, _, _, g, _⟩ := Ob.head_is hw hh
 have := may_ref g hk
 refine List.mem_append_left _ (mem_clear.mpr ⟨rfAt G h a, hC.perm.mem_iff.mpr ((mem_refsOf hw).mpr ⟨h, hh, hk, rfl⟩), rfl, ?_, lost_iff.mpr ⟨ho, ?_⟩⟩)
 ·show h.c ∈ _
  have : h.c = 1 ∨ h.c = 2 := by omega
  rcases this with e | e <;> rw [e] <;> simp
 ·show ¬ Sp.has m2 (Ob.get G a 0).1 = true
  rw [hm]; simp
theorem Gr.OK.refs_le {S : Spc} {hs : List Hd} {l : List Int} (H : Gr.OK S hs l) (hg : ∀ h ∈ hs, Gr.Good h) (a : Int) : (Ob.refs S Gr.cs a).length ≤ 5 := by
 unfold Ob.refs
 cases hh : Ob.head S a with
 | none => simp
 | some h =>
  dsimp only
  have ho : Mk.obj S a := by unfold Mk.obj; rw [hh]; rfl
  obtain ⟨i, hi⟩ := List.mem_iff_getElem?.mp (H.obj.mp ho)
  have hlt := getElem?_lt hi
  rw [H.len] at hlt
  have h2 := H.head i _ (List.getElem?_eq_getElem hlt)
  have hgd := hg _ (List.getElem_mem hlt)
  rw [show l.getD i 0 = a by rw [List.getD_eq_getElem?_getD, hi]; rfl, hh] at h2
  injection h2 with h2
  rw [← h2] at hgd
  have n1 := hgd.n1
  split
  ·split
   ·rename_i c hc
    obtain ⟨j, _, hj⟩ := Sp.clsAt_some hc
    have : c ∈ Gr.cs := List.mem_of_getElem? hj
    have : c = (3, [0, 2]) := by simpa [Gr.cs] using this
    rw [this]; simp
   ·simp
  ·split
   ·unfold Sp.upto; simp; omega
   ·split <;> simp
abbrev outC (a b c d : Slc) : List Value := [.slice a.a a.n a.c, .slice b.a b.n b.c, .slice c.a c.n c.c, .slice d.a d.n d.c]
theorem law_procclears (s : Slc) (ns : List Int) (z1 : Slc) (v1 : List Int) (z2 : Slc) (v2 : List Int) (c f r : Int) (all : Bool) (hc : 0 ≤ c ∧ c < 256) (hf : 0 ≤ f ∧ f < 256) (hr : 0 ≤ r ∧ r < 256)
  (ro : RoS ρ s 1 (ns.map fun x => .int .u8 x)) (hb : ∀ x ∈ ns, (Lit.int .u8 x).wf = true) (hl : ns.length < 2 ^ 63) (ro1 : RoS ρ z1 1 (v1.map fun x => .int .u8 x)) (hb1 : ∀ x ∈ v1, (Lit.int .u8 x).wf = true) (hl1 : v1.length < 2 ^ 63) (ro2 : RoS ρ z2 1 (v2.map fun x => .int .u8 x)) (hb2 : ∀ x ∈ v2, (Lit.int .u8 x).wf = true) (hl2 : v2.length < 2 ^ 63) :
  Gl.Spec ρ Tryz.prog 5 [.slice s.a s.n s.c, .slice z1.a z1.n z1.c, .slice z2.a z2.n z2.c, .int .u8 c, .int .u8 f, .int .u8 r, .bool all] [] RB fun r M => r = true ∧ M = [] := by
 refine Spec.of (fun Q w h => F.gloaminglaw18.ProcClears.calls s z1 z2 c f r all h) fun R => ?_
 unfold F.gloaminglaw18.ProcClears
 try simp only [lca, lna]
 have hb := u8_all hb
 have hb1 := u8_all hb1
 have hb2 := u8_all hb2
 refine en_call (g_graph s ns ro hb hl) tks ?_
 rintro x' M ⟨p, q, rfl, rfl⟩
 try simp only [lca, lna]
 refine en_brf rfl ?_
 have hok := Gr.graph_ok hb
 have hgood := Gr.heads_good hb
 have hhl := Gr.heads_len (ns := ns)
 have hst : ∀ r ∈ refsOf (Gr.graph ns).1, r.2.2.2.2.1 < 9223372036854775808 := fun r hr => by
  obtain ⟨_, _, _, _, _, _, _, _, h⟩ := Gr.graph_refs hb hr
  exact Int.lt_trans h (by decide)
 generalize Gr.heads ns = hs at hok hgood hhl
 generalize (Gr.graph ns).2 = l at *
 generalize (Gr.graph ns).1 = G at *
 have hlen := hok.hw.wf.len
 have hmost := hok.hw.wf.most
 have hll := hok.len
 have hrl := hok.refs_le hgood
 have hel : (Sp.each G).length ≤ 24 := by rw [hok.each.length_eq]; omega
 have hobj := fun a => hok.obj (a := a)
 refine Tr.keepSL (s := q) tk fun ρ1 hle1 hr1 => ?_
 replace ro1 := ro1.le hle1
 replace ro2 := ro2.le hle1
 refine en_call (g_in q l hr1 z1 v1 ro1 hb1 z2 v2 ro2 hb2 c f r all 7 hc hf hr (by decide)) tks ?_
 rintro x' M ⟨s1, s2, rfl, rfl⟩
 try simp only [lca, lna]
 refine en_nw fun b3 => ?_
 rw [zcIn, zcOut]
 refine en_st (b := b3) (off := 0) rfl tk (by simp) rfl ?_
 refine Tr.take (A := blk b3 (inC ⟨s1, s2, c, f % 20, r % 9, all, 1 + 7 % 9⟩)) tk ?_
 refine en_ldg (b := b3) (off := 0) (x := inT ⟨s1, s2, c, f % 20, r % 9, all, 1 + 7 % 9⟩) [] rfl tk rfl ?_
 refine Tr.keepSL (s := s1) tk fun ρ2 hle2 hro => ?_
 refine Tr.keepSL (s := s2) tk fun ρ3 hle3 hfi => ?_
 replace hro := hro.le hle3
 replace hr1 := (hr1.le hle2).le hle3
 have hxl1 : (Gr.some l v1 5).length ≤ 5 := by unfold Gr.some; simp; omega
 have hxl2 : (Gr.some l v2 5).length ≤ 5 := by unfold Gr.some; simp; omega
 generalize Gr.some l v1 5 = ros at *
 generalize Gr.some l v2 5 = fs at *
 refine en_call (proc_process p G Gr.cs hok.hw ⟨s1, s2, c, f % 20, r % 9, all, 1 + 7 % 9⟩ ⟨by dsimp only; omega, by dsimp only; omega, by dsimp only; omega⟩ ros fs hro hfi (by omega) (by omega) hst (by dsimp only; omega)) tks ?_
 rintro r5 M ⟨t1, t2, t3, t4, l9, m2, m3, rfl, hC, rfl⟩
 try simp only [lca, lna]
 refine en_nw fun b6 => ?_
 refine en_st (b := b6) (off := 0) rfl tk (by simp) rfl ?_
 refine Tr.take (A := blk b6 (outC t1 t2 t3 t4)) tk ?_
 have hfew := hC.few hok.hw
 have n1 := clr_le (S := G) (m2 := m2) (m3 := m3) (l := l9)
 have n4 := Mk.all_len (m := m3)
 have hm3 := hC.c3.len
 iterate 1
  refine en_call (law_err _) .nil ?_
  rintro x' M ⟨rfl, rfl⟩
  try simp only [lca, lna]
 refine en_brf rfl ?_
 refine en_ld (k := .slice) (b := b3) (off := 0) (x := s1) (by rw [fa_mk]) tk rfl ?_
 refine en_call (g_reach p G Gr.cs hok.hw s1 ros hro 5 hrl (by decide) (by omega)) tks ?_
 rintro r9 M ⟨strong, rfl, hstr, hstl⟩
 try simp only [lca, lna]
 refine Tr.keepSL (s := r9) tk fun ρ4 hle4 hr9 => Tr.keepSL (s := t1) tk fun ρ5 hle5 a1 => Tr.keepSL (s := t4) tk fun ρ6 hle6 a4 => ?_
 replace hr9 := (hr9.le hle5).le hle6
 replace a1 := a1.le hle6
 replace hr1 := ((hr1.le hle4).le hle5).le hle6
 have l01 := (((((hle1.trans hle2).trans hle3).trans hle4).trans hle5).trans hle6)
 have e2 := a1.len
 have e4 := a4.len
 have eq := hr1.len
 have hcl := fun a ha => clear_fact hok.hw hC (a := a) ha
 have hci := fun (a : Int) (h : Hd) => clear_in hok.hw hC (a := a) (h := h)
 have hclo : ∀ a b, Mk.Rch G Gr.cs [a] b → Sp.has m2 b = false → Sp.has m2 a = false := fun a b h1 h2 => by
  cases h3 : Sp.has m2 a with
  | false => rfl
  | true =>
   rw [hC.c2.rch (l := [a]) (fun b hb _ => by rw [List.mem_singleton] at hb; rw [hb]; exact h3) h1] at h2
   cases h2
 have hs2 : ∀ a, a ∈ strong → Sp.has m2 a = true := fun a ha => (hC.has2 a).mpr (.base ((hstr a).mp ha))
 have hlive : ∀ a, a ∈ Mk.all m3 ↔ Sp.has m3 a = true := fun a => Mk.mem_all
 generalize clrOf G m2 m3 l9 = cl at *
 generalize Mk.all m3 = live at *
 refine Tr.take (A := HeapA p G Gr.cs) tk (Tr.take (A := blk b6 (outC t1 t2 t3 t4)) tk ?_)
 refine Tr.drop (A := blk b3 (inC ⟨s1, s2, c, f % 20, r % 9, all, 1 + 7 % 9⟩)) tk (Tr.drop (A := SLc t2 1 ((putOf G m3 cl).map i64)) tk (Tr.drop (A := SLc t3 1 ((pendOf G m2 fs).map i64)) tk ?_))
 refine en_lp (fun n u M => (fun i : Int => M = blk b6 (outC t1 t2 t3 t4) :: HeapA p G Gr.cs :: R ∧ 0 ≤ i ∧ i ≤ cl.length ∧ n = cl.length - i.toNat) u.1) cl.length ?_ ?_
 ·exact ⟨rfl, by simp, by dsimp only; omega, by simp⟩
 ·rintro n ⟨(i : Int), ⟨⟩⟩ M ⟨rfl, i0, i1, rfl⟩ X hX
  dsimp only at i0 i1 hX ⊢
  refine en_ld (k := .slice) (b := b6) (off := 0) (x := t1) (by rw [fa_mk]) tk rfl ?_
  refine en_br (fun h => ?_) (fun h => ?_)
  ·replace h : i < (t1.n : Int) := of_decide_eq_true h
   have hi : i.toNat < cl.length := by omega
   have hin : cl.getD i.toNat 0 ∈ cl := by rw [List.getD_eq_getElem?_getD, List.getElem?_eq_getElem hi]; exact List.getElem_mem hi
   refine en_ld (k := .slice) (b := b6) (off := 0) (x := t1) (by rw [fa_mk]) tk rfl ?_
   refine en_getRo a1 i0 (by omega) ?_
   obtain ⟨⟨k1, c1, n1, f1⟩, g1, g2, g3, g4, g5⟩ := hcl _ hin
   generalize hgx : cl.getD i.toNat 0 = x at *
   refine en_call (object_head p G Gr.cs hok.hw x) tks ?_
   rintro x' M ⟨rfl, rfl⟩
   try simp only [lca, lna]
   refine en_nw fun b17 => ?_
   rw [zcH, g1, wrap64 (n := i + 1) (by omega) (by omega)]
   dsimp only [Ob.headR, Hd.t]
   refine en_st (b := b17) (off := 0) rfl tk (by simp) rfl ?_
   refine Tr.take (A := blk b17 [.int .i64 k1, .int .i64 c1, .int .i64 n1, .bool f1]) tk ?_
   refine en_ld (k := .slice) (b := b6) (off := 0) (x := t1) (by rw [fa_mk]) tk rfl ?_
   refine en_getRo a1 i0 (by omega) ?_
   rw [hgx]
   refine en_call (object_get p G Gr.cs hok.hw x 0) tks ?_
   rintro x' M ⟨rfl, rfl⟩
   try simp only [lca, lna]
   iterate 1
    refine en_call (law_err _) .nil ?_
    rintro x' M ⟨rfl, rfl⟩
    try simp only [lca, lna]
   refine en_brf rfl ?_
   refine en_ld (k := .int .i64) (b := b17) (off := 0) (x := k1) (by rw [fa_mk]) tk rfl ?_
   have g2 : k1 = 4 := g2
   refine en_brf (by rw [g2]; rfl) ?_
   have ho0 : (Ob.get G x 0).1 ≠ 0 := fun e => by rw [e] at g3; exact Mk.obj_zero hok.hw g3
   generalize (Ob.get G x 0).1 = o at *
   refine en_brf (by simpa using ho0) ?_
   refine en_call (ref_in r9 strong hr9 (by omega) o) tks ?_
   rintro x' M ⟨rfl, rfl⟩
   try simp only [lca, lna]
   refine en_brf (decide_eq_false fun e => by have := hs2 o e; rw [g4] at this; cases this) ?_
   refine en_ld (k := .int .i64) (b := b17) (off := 1) (x := c1) (by rw [fa_mk]) tk rfl ?_
   refine Tr.drop (A := blk b17 [.int .i64 k1, .int .i64 c1, .int .i64 n1, .bool f1]) tk ?_
   have next : Tr ρ ρ6 (blk b6 (outC t1 t2 t3 t4) :: HeapA p G Gr.cs :: R) (X (i + 1, ())) (SP RB (fun r M => r = true ∧ M = []) R) :=
    hX (cl.length - (i + 1).toNat) _ _ (by omega) ⟨rfl, by dsimp only; omega, by dsimp only; omega, rfl⟩
   refine en_br (fun h3 => ?_) (fun h3 => ?_)
   ·have h3 : c1 = 3 := eq_of_beq h3
    refine Tr.take (A := blk b6 (outC t1 t2 t3 t4)) tk ?_
    refine en_ld (k := .slice) (b := b6) (off := 3) (x := t4) (by rw [fa_mk]) tk rfl ?_
    refine en_call (ref_in t4 live a4 (by omega) o) tks ?_
    rintro x' M ⟨rfl, rfl⟩
    try simp only [lca, lna]
    refine en_brf (decide_eq_false fun e => by have := (hlive o).mp e; rw [g5 h3] at this; cases this) ?_
    exact next
   ·refine Tr.take (A := blk b6 (outC t1 t2 t3 t4)) tk ?_
    clear hX
    refine en_lp (fun n u M => (fun j : Int => M = blk b6 (outC t1 t2 t3 t4) :: HeapA p G Gr.cs :: R ∧ 0 ≤ j ∧ j ≤ l.length ∧ n = l.length - j.toNat) u.1) l.length ?_ ?_
    ·exact ⟨rfl, by simp, by dsimp only; omega, by simp⟩
    ·rintro n ⟨(j : Int), ⟨⟩⟩ M ⟨rfl, j0, j1, rfl⟩ Y hY
     dsimp only at j0 j1 hY ⊢
     refine en_br (fun h => ?_) (fun h => ?_)
     ·replace h : j < (q.n : Int) := of_decide_eq_true h
      have hj : j.toNat < l.length := by omega
      have hjn : l.getD j.toNat 0 ∈ l := by rw [List.getD_eq_getElem?_getD, List.getElem?_eq_getElem hj]; exact List.getElem_mem hj
      refine en_getRo hr1 j0 (by omega) ?_
      have hyo := (hobj _).mpr hjn
      generalize hgy : l.getD j.toNat 0 = y at *
      have hy2 := hci y
      unfold Mk.obj at hyo
      cases hh : Ob.head G y with
      | none => rw [hh] at hyo; cases hyo
      | some hd =>
      replace hy2 := hy2 hd hh
      obtain ⟨k2, c2, n2, f2⟩ := hd
      dsimp only at hy2
      refine en_call (object_head p G Gr.cs hok.hw y) tks ?_
      rintro x' M ⟨rfl, rfl⟩
      try simp only [lca, lna]
      refine en_nw fun b31 => ?_
      rw [hh, wrap64 (n := j + 1) (by omega) (by omega)]
      dsimp only [Ob.headR, Hd.t]
      refine en_st (b := b31) (off := 0) rfl tk (by simp) rfl ?_
      refine Tr.take (A := blk b31 [.int .i64 k2, .int .i64 c2, .int .i64 n2, .bool f2]) tk ?_
      refine en_getRo hr1 j0 (by omega) ?_
      rw [hgy]
      refine en_call (object_get p G Gr.cs hok.hw y 0) tks ?_
      rintro x' M ⟨rfl, rfl⟩
      try simp only [lca, lna]
      generalize (Ob.get G y 0).1 = o2 at *
      have next2 : Tr ρ ρ6 (blk b6 (outC t1 t2 t3 t4) :: HeapA p G Gr.cs :: R) (Y (j + 1, ())) (SP RB (fun r M => r = true ∧ M = []) R) :=
       hY (l.length - (j + 1).toNat) _ _ (by omega) ⟨rfl, by dsimp only; omega, by dsimp only; omega, rfl⟩
      refine en_ld (k := .int .i64) (b := b31) (off := 0) (x := k2) (by rw [fa_mk]) tk rfl ?_
      refine Tr.take (A := blk b6 (outC t1 t2 t3 t4)) tk ?_
      have skip : Tr ρ ρ6 (blk b6 (outC t1 t2 t3 t4) :: HeapA p G Gr.cs :: blk b31 [.int .i64 k2, .int .i64 c2, .int .i64 n2, .bool f2] :: R) (Y (j + 1, ())) (SP RB (fun r M => r = true ∧ M = []) R) := Tr.drop (.skip (.skip .here)) next2
      refine en_br (fun h5 => skip) (fun h5 => ?_)
      have h5 : k2 = 4 := by simpa using h5
      refine en_ld (k := .int .i64) (b := b31) (off := 1) (x := c2) (by rw [fa_mk]) tk rfl ?_
      refine en_br (fun h6 => skip) (fun h6 => ?_)
      have h6 : c2 ≠ 3 := by simpa using h6
      refine en_br (fun h7 => skip) (fun h7 => ?_)
      refine en_br (fun h8 => ?_) (fun h8 => ?_)
      ·have h8 : o2 = o := eq_of_beq h8
       have hyin := hy2 h5 h6 (by rw [h8]; exact g3) (by rw [h8]; exact g4)
       refine en_drw ?_
       refine en_ld (k := .slice) (b := b6) (off := 0) (x := t1) (by rw [fa_mk]) tk rfl ?_
       refine en_getRo hr1 j0 (by omega) ?_
       rw [hgy]
       refine en_call (ref_in t1 cl a1 (by omega) y) tks ?_
       rintro x' M ⟨rfl, rfl⟩
       try simp only [lca, lna]
       exact en_brf (by rw [decide_eq_true hyin]; rfl) skip
      ·refine en_ld (k := .int .i64) (b := b31) (off := 1) (x := c2) (by rw [fa_mk]) tk rfl ?_
       refine en_br (fun h9 => ?_) (fun h9 => en_drw skip)
       refine en_nw fun b38 => ?_
       refine Rd.bk (n := 1) (m := 1) (vs := ([o2] : List Int).map i64) rfl tk fun ρ7 hle7 ro7 => ?_
       refine en_call (g_reach p G Gr.cs hok.hw ⟨some ⟨b38, 0, none⟩, 1, 1⟩ [o2] ro7 5 hrl (by decide) (by rw [List.length_singleton]; omega)) tks ?_
       rintro r39 M ⟨out2, rfl, hout2, hol2⟩
       try simp only [lca, lna]
       refine en_call (Spec.own (s := r39) (xs := out2.map i64) (A := []) fun ρ' _ hro' => ref_in r39 out2 hro' (by omega) o) tks ?_
       rintro x' M ⟨M', ⟨rfl, rfl⟩, rfl⟩
       try simp only [lca, lna]
       refine Tr.drop .here (Tr.take (A := blk b6 (outC t1 t2 t3 t4)) tk ?_)
       refine tr_weak2 l01 hle7 ?_
       refine en_drw ?_
       refine en_br (fun h10 => ?_) (fun h10 => skip)
       have h10 : o ∈ out2 := of_decide_eq_true h10
       have hrch := (hout2 o).mp h10
       have hob2 : Mk.obj G o2 := by
        have : ∀ {a}, Mk.Rch G Gr.cs [o2] a → Mk.obj G o2 := fun h => by
         induction h with
         | root h ho => rw [List.mem_singleton] at h; rw [← h]; exact ho
         | step _ _ _ ih => exact ih
        exact this hrch
       have hyin := hy2 h5 h6 hob2 (hclo o2 o hrch g4)
       refine en_ld (k := .slice) (b := b6) (off := 0) (x := t1) (by rw [fa_mk]) tk rfl ?_
       refine en_getRo hr1 j0 (by omega) ?_
       rw [hgy]
       refine en_call (ref_in t1 cl a1 (by omega) y) tks ?_
       rintro x' M ⟨rfl, rfl⟩
       try simp only [lca, lna]
       exact en_brf (by rw [decide_eq_true hyin]; rfl) skip
     ·exact next
  ·refine en_call (law_awake18) tks ?_
   rintro x' M ⟨rfl, rfl⟩
   try simp only [lca, lna]
   exact en_rets (x := true) rfl ⟨rfl, rfl⟩ tks ens
end Go.Proofs.YtpefngbfgjfcgaaGreat
