/- ProcRaw. -/
import Derived.Test.YtpefngbfgjfcgaaGreatGsL18
import Derived.Test.YtpefngbfgjfcgaaGreatGsOpen
import Derived.Test.YtpefngbfgjfcgaaGreatGsTxProcRaw
set_option linter.unusedSimpArgs false
set_option linter.unusedVariables false
namespace Go.Proofs.YtpefngbfgjfcgaaGreat
open Go Go.Gl
variable {ρ0 ρ : FR} {L L' : List Asn} {Post : Value → List Asn → Prop} {T : Tree}
set_option maxRecDepth 100000 in
theorem open_in {H : Type} {enc : TypeId × Value → H} {W : World} {b0 : Nat} {v : Value} {d : DataW H} {p : List MemPlace} (hval : Value.okWide Tryz.prog W .any b0 31 v) (h : DataW.Trod enc Tryz.prog W 0 (fun _ => true) true 31 v d p) :
  ∃ (x : In7) (ros fs : List Int), v = inV x ∧ x.Ok ∧ RoS (FR.all W) x.ro 1 (ros.map i64) ∧ RoS (FR.all W) x.fi 1 (fs.map i64) := by
 have c1 : Tryz.prog.cellsOf 3 = 1 := by kernel_rfl
 have cb : Tryz.prog.cellsOf 4 = 1 := by kernel_rfl
 have cl : Tryz.prog.cellsOf 24 = 1 := by kernel_rfl
 have c7 : Tryz.prog.cellsOf 31 = 7 := by kernel_rfl
 obtain ⟨cs, rfl, hcs⟩ := Go.WideShapes.okWide_struct Tryz.underlying31 hval
 obtain ⟨fuel, hf⟩ := h
 obtain ⟨ys, n, _, _, hlen, hsz, hf⟩ := DataW.trod_struct Tryz.underlying31 hf
 rw [c7] at hcs
 simp only [Value.cells] at hf
 obtain ⟨y0, hy0⟩ := open_fld (i := 0) (o := 0) (t := 24) hsz hf (by rfl)
 obtain ⟨y1, hy1⟩ := open_fld (i := 1) (o := 1) (t := 24) hsz hf (by rfl)
 rw [cl] at hy0 hy1
 obtain ⟨s0, ros, hs0, hr0⟩ := ros_ints Tryz.underlying24 Tryz.underlying3 c1 hy0
 obtain ⟨s1, fs, hs1, hr1⟩ := ros_ints Tryz.underlying24 Tryz.underlying3 c1 hy1
 obtain ⟨c, hc, wc⟩ := open_ifldw (i := 2) (o := 2) hsz hf Tryz.underlying3 c1 (by rfl)
 obtain ⟨f, hff, wf⟩ := open_ifldw (i := 3) (o := 3) hsz hf Tryz.underlying3 c1 (by rfl)
 obtain ⟨r, hr, wr⟩ := open_ifldw (i := 4) (o := 4) hsz hf Tryz.underlying3 c1 (by rfl)
 obtain ⟨k, hk, wk⟩ := open_ifldw (i := 6) (o := 6) hsz hf Tryz.underlying3 c1 (by rfl)
 obtain ⟨yb, hyb⟩ := open_fld (i := 5) (o := 5) (t := 4) hsz hf (by rfl)
 rw [cb] at hyb
 obtain ⟨b, hb, _⟩ := DataW.trod_bool Tryz.underlying4 hyb
 have hb := cell_at hb
 have hs0 := cell_at hs0
 have hs1 := cell_at hs1
 refine ⟨⟨s0, s1, c, f, r, b, k⟩, ros, fs, ?_, ⟨(i64_wf wc).2, (i64_wf wf).2, (i64_wf wr).2⟩, hr0, hr1⟩
 unfold inV
 congr 1
 apply Array.ext'
 refine List.ext_getElem? fun j => ?_
 have hl : cs.toList.length = 7 := by simpa using hcs
 match j with
 | 0 => exact hs0
 | 1 => exact hs1
 | 2 => exact hc
 | 3 => exact hff
 | 4 => exact hr
 | 5 => exact hb
 | 6 => exact hk
 | j + 7 => rw [List.getElem?_eq_none (by omega), List.getElem?_eq_none (by simp)]
theorem law_procraw (s : Slc) (ns : List Int) (x : In7) (ros fs : List Int) (hxo : x.Ok) (hro : RoS ρ x.ro 1 (ros.map i64)) (hfi : RoS ρ x.fi 1 (fs.map i64))
  (ro : RoS ρ s 1 (ns.map fun x => .int .u8 x)) (hb : ∀ x ∈ ns, (Lit.int .u8 x).wf = true) (hl : ns.length < 2 ^ 63) :
  Gl.Spec ρ Tryz.prog 4 [.slice s.a s.n s.c, inV x] [] RB fun r M => r = true ∧ M = [] := by
 refine Spec.of (fun Q w h => F.gloaminglaw18.ProcRaw.calls s (inT x) h) fun R => ?_
 unfold F.gloaminglaw18.ProcRaw
 try simp only [lca, lna]
 have hb := u8_all hb
 have e1 := hro.len
 have e2 := hfi.len
 refine en_nw fun b1 => ?_
 refine en_ld (k := .slice) (b := b1) (off := 0) (x := x.ro) (by rw [fa_mk]) tk rfl ?_
 refine en_br (fun h => ?_) (fun h1 => ?_)
 ·refine en_call (law_awake18) tks ?_
  rintro x' M ⟨rfl, rfl⟩
  try simp only [lca, lna]
  exact en_rets (x := true) rfl ⟨rfl, rfl⟩ tks ens
 replace h1 : ¬ ((x.ro.n : Nat) : Int) > 40 := of_decide_eq_false h1
 refine en_ld (k := .slice) (b := b1) (off := 1) (x := x.fi) (by rw [fa_mk]) tk rfl ?_
 refine en_br (fun h => ?_) (fun h2 => ?_)
 ·refine en_call (law_awake18) tks ?_
  rintro x' M ⟨rfl, rfl⟩
  try simp only [lca, lna]
  exact en_rets (x := true) rfl ⟨rfl, rfl⟩ tks ens
 replace h2 : ¬ ((x.fi.n : Nat) : Int) > 40 := of_decide_eq_false h2
 have hxl1 : ros.length < 2 ^ 30 := by omega
 have hxl2 : fs.length < 2 ^ 30 := by omega
 refine en_call (g_graph s ns ro hb hl) tks ?_
 rintro x' M ⟨p, q, rfl, rfl⟩
 try simp only [lca, lna]
 refine en_call (g_model s ns ro hb hl) tks ?_
 rintro x' M ⟨p2, q2, lc, hcs, hln, rfl, rfl⟩
 try simp only [lca, lna]
 refine en_brf rfl ?_
 have hok := Gr.graph_ok hb
 have hgood := Gr.heads_good hb
 have hkeys := Gr.graph_keys hb
 have hst : ∀ r ∈ refsOf (Gr.graph ns).1, r.2.2.2.2.1 < 9223372036854775808 := fun r hr => by
  obtain ⟨_, _, _, _, _, _, _, _, h⟩ := Gr.graph_refs hb hr
  exact Int.lt_trans h (by decide)
 generalize Gr.heads ns = hs at hok hgood
 generalize (Gr.graph ns).2 = l at *
 generalize (Gr.graph ns).1 = G at *
 have hlen := hok.hw.wf.len
 have hmost := hok.hw.wf.most
 have hwG := hok.hw
 rw [← hcs] at hwG
 have hkn := hok.kn hgood
 rw [← hcs] at hkn
 have hcls : ∀ c ∈ csO lc, c.2.length ≤ 1023 := fun c hc => by
  rw [hcs] at hc
  have : c = (3, [0, 2]) := by simpa [Gr.cs] using hc
  rw [this]; decide
 refine en_ldg (b := b1) (off := 0) (x := inT x) [] rfl tk rfl ?_
 by_cases hxs : 1 ≤ x.stack ∧ x.stack ≤ 4096
 ·refine en_call (proc_process p G Gr.cs hok.hw x hxo ros fs hro hfi hxl1 hxl2 hst hxs) tks ?_
  rintro r6 M ⟨t1, t2, t3, t4, l9, m2, m3, rfl, hC, rfl⟩
  try simp only [lca, lna]
  refine en_nw fun b8 => ?_
  rw [zcOut]
  refine en_st (b := b8) (off := 0) rfl tk (by simp) rfl ?_
  refine Tr.take (A := blk b8 [.slice t1.a t1.n t1.c, .slice t2.a t2.n t2.c, .slice t3.a t3.n t3.c, .slice t4.a t4.n t4.c]) tk ?_
  refine en_ld (k := .int .i64) (b := b1) (off := 6) (x := x.stack) (by rw [fa_mk]) tk rfl ?_
  refine en_brf (decide_eq_false (by omega)) ?_
  refine en_ld (k := .int .i64) (b := b1) (off := 6) (x := x.stack) (by rw [fa_mk]) tk rfl ?_
  refine en_brf (decide_eq_false (by omega)) ?_
  refine en_ldg (b := b1) (off := 0) (x := inT x) [] rfl tk rfl ?_
  refine en_call (proc_process0 x) tks ?_
  rintro x' M ⟨rfl, rfl⟩
  try simp only [lca, lna]
  refine en_nw fun b13 => ?_
  refine en_st (b := b13) (off := 0) rfl tk (by simp) rfl ?_
  refine en_drw (en_held [blk b8 [.slice t1.a t1.n t1.c, .slice t2.a t2.n t2.c, .slice t3.a t3.n t3.c, .slice t4.a t4.n t4.c], blk b1 (inC x)] tks ?_)
  iterate 1
   refine en_call (law_err _) .nil ?_
   rintro x' M ⟨rfl, rfl⟩
   try simp only [lca, lna]
  refine en_chk tks (en_cut [blk b8 [.slice t1.a t1.n t1.c, .slice t2.a t2.n t2.c, .slice t3.a t3.n t3.c, .slice t4.a t4.n t4.c], blk b1 (inC x)] tks (fun w h => h) ?_)
  refine en_brt rfl ?_
  refine en_ldgS (b := b8) (off := 0) (x := ((t1, t2, t3, t4, ()) : LTs OutL)) [] rfl tk rfl ?_
  refine en_ldgS (b := b1) (off := 0) (x := inT x) [] rfl tk rfl ?_
  refine en_call (rm_process p2 G lc hwG hkn hln hcls hkeys x hxo ros fs hro hfi hxl1 hxl2 hst) tks ?_
  rintro r13 M ⟨u1, u2, u3, u4, l8, k2, k3, rfl, hC', rfl⟩
  try simp only [lca, lna]
  rw [hcs] at hC'
  obtain ⟨e1, e2, e3⟩ := Coll.eq hkeys ⟨rfl, rfl, rfl, rfl⟩ hC hC'
  subst e1 e2 e3
  refine en_chk tks ?_
  have hfew := hC.few hok.hw
  have n1 := clr_le (S := G) (m2 := m2) (m3 := m3) (l := l9)
  have n2 := put_len (S := G) (m := m3) (xs := clrOf G m2 m3 l9)
  have n3 := pend_le (S := G) (m := m2) (fs := fs)
  have n4 := Mk.all_len (m := m3)
  have hm3 := hC.c3.len
  refine Tr.keepSL (s := t1) tk fun ρ4 hle4 a1 => Tr.keepSL (s := t2) tk fun ρ5 hle5 a2 => Tr.keepSL (s := t3) tk fun ρ6 hle6 a3 => Tr.keepSL (s := t4) tk fun ρ7 hle7 a4 => ?_
  refine Tr.keepSL (s := u1) tk fun ρ8 hle8 g1 => Tr.keepSL (s := u2) tk fun ρ9 hle9 g2 => Tr.keepSL (s := u3) tk fun ρa hlea g3 => Tr.keepSL (s := u4) tk fun ρb hleb g4 => ?_
  have q9 := hlea.trans hleb
  have q8 := hle9.trans q9
  have q7 := hle8.trans q8
  have q6 := hle7.trans q7
  have q5 := hle6.trans q6
  have q4 := hle5.trans q5
  refine en_call (same_out t1 t2 t3 t4 u1 u2 u3 u4 _ _ _ _ (a1.le q4) (a2.le q5) (a3.le q6) (a4.le q7) (g1.le q8) (g2.le q9) (g3.le hleb) g4 (by omega) (by omega) (by omega) (by omega)) .nil ?_
  rintro x' M ⟨rfl, rfl⟩
  try simp only [lca, lna]
  refine en_brt rfl ?_
  iterate 1
   refine en_call (law_err _) .nil ?_
   rintro x' M ⟨rfl, rfl⟩
   try simp only [lca, lna]
  refine en_brt rfl ?_
  refine en_call (law_awake18) tks ?_
  rintro x' M ⟨rfl, rfl⟩
  try simp only [lca, lna]
  exact en_rets (x := true) rfl ⟨rfl, rfl⟩ tks ens
 ·refine en_call (proc_process1 p G Gr.cs x hxs) tks ?_
  rintro x' M ⟨rfl, rfl⟩
  try simp only [lca, lna]
  refine en_nw fun b8 => ?_
  rw [zcOut]
  refine en_st (b := b8) (off := 0) rfl tk (by simp) rfl ?_
  refine Tr.take (A := blk b8 [.slice none 0 0, .slice none 0 0, .slice none 0 0, .slice none 0 0]) tk ?_
  refine en_ld (k := .int .i64) (b := b1) (off := 6) (x := x.stack) (by rw [fa_mk]) tk rfl ?_
  refine en_br (fun h => ?_) (fun h => ?_)
  ·iterate 1
    refine en_call (law_err _) .nil ?_
    rintro x' M ⟨rfl, rfl⟩
    try simp only [lca, lna]
   refine en_brt rfl ?_
   refine en_ld (k := .slice) (b := b8) (off := 3) (x := ⟨none, 0, 0⟩) (by rw [fa_mk]) tk rfl ?_
   refine en_brt rfl ?_
   refine en_call (law_awake18) tks ?_
   rintro x' M ⟨rfl, rfl⟩
   try simp only [lca, lna]
   exact en_rets (x := true) rfl ⟨rfl, rfl⟩ tks ens
  ·refine en_ld (k := .int .i64) (b := b1) (off := 6) (x := x.stack) (by rw [fa_mk]) tk rfl ?_
   replace h : ¬ x.stack < 1 := of_decide_eq_false h
   refine en_brt (decide_eq_true (by omega)) ?_
   iterate 1
    refine en_call (law_err _) .nil ?_
    rintro x' M ⟨rfl, rfl⟩
    try simp only [lca, lna]
   refine en_brt rfl ?_
   refine en_ld (k := .slice) (b := b8) (off := 3) (x := ⟨none, 0, 0⟩) (by rw [fa_mk]) tk rfl ?_
   refine en_brt rfl ?_
   refine en_call (law_awake18) tks ?_
   rintro x' M ⟨rfl, rfl⟩
   try simp only [lca, lna]
   exact en_rets (x := true) rfl ⟨rfl, rfl⟩ tks ens
end Go.Proofs.YtpefngbfgjfcgaaGreat
