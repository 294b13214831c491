/- ProcSofts. -/
import Derived.Test.YtpefngbfgjfcgaaGreatGsFlat
import Derived.Test.YtpefngbfgjfcgaaGreatGsTxProcSofts
set_option linter.unusedSimpArgs false
set_option linter.unusedVariables false
namespace Go.Proofs.YtpefngbfgjfcgaaGreat
open Go Go.Gl
variable {ρ0 ρ : FR} {L L' : List Asn} {Post : Value → List Asn → Prop} {T : Tree}
theorem keep_300 {t f : Int} (t0 : 0 ≤ t) (t1 : t < 256) (f0 : 0 ≤ f) (f1 : f < 10000) : Sf.keep 300 t f 1 = decide (300 - t ≤ f) := by
 have e1 : Sf.none 300 = 300 := rfl
 have e2 : Sf.none t = t := by unfold Sf.none; split <;> omega
 have e3 : Sf.none f = f := by unfold Sf.none; split <;> omega
 have e4 : Sf.none 1 = 1 := rfl
 have e5 : Sf.none (300 - t) = 300 - t := by unfold Sf.none; split <;> omega
 unfold Sf.keep Sf.idle Sf.limit
 rw [e1, e2, e3, e4, e5, Int.mul_one, if_neg (by omega)]
theorem softs_out {S : Spc} {o x y w a b f : Int} (H : Bx S Gr.cs 60 [⟨o, ⟨2, 0, 1, false⟩, [0]⟩, ⟨x, ⟨4, 1, 5, false⟩, [o, 0, 0, a, 1]⟩, ⟨y, ⟨4, 1, 5, false⟩, [o, 1, 0, b, 2]⟩, ⟨w, ⟨4, 2, 5, false⟩, [o, 1, 0, 0, 3]⟩]) {i : In7} (hx : i.clock = 300 ∧ i.free = f ∧ i.rate = 1 ∧ i.all = false) (ha : 0 ≤ a ∧ a < 256) (hb : 0 ≤ b ∧ b < 256) (hf : 0 ≤ f ∧ f < 10000) {held : Bool} {l : List Rf6} {m2 m3 : List Bool}
  (hC : Coll S Gr.cs i (if held then [x, y, w] else [y, w]) [] l m2 m3) (kp : Bool) (hkp : kp = (decide (300 - b ≤ f) || (held && decide (300 - a ≤ f)))) :
  clrOf S m2 m3 l = (if kp then [] else [x, y, w]) ∧ putOf S m3 (clrOf S m2 m3 l) = (if kp then [] else [y, w]) ∧ Sp.has m3 o = kp ∧ Sp.has m3 x = held := by
 have hl : l = [(x, 1, o, 0, a, 1, ()), (y, 1, o, 1, b, 2, ()), (w, 2, o, 1, 0, 3, ())] := H.l_is hC (lr := [(x, 1, o, 0, a, 1, ()), (y, 1, o, 1, b, 2, ()), (w, 2, o, 1, 0, 3, ())]) (.refl _) (by simp [key6])
 subst hl
 have hnd := H.nodup
 simp only [List.map_cons, List.map_nil, List.nodup_cons, List.mem_cons, List.not_mem_nil, or_false, not_or] at hnd
 obtain ⟨⟨ox, oy, ow⟩, ⟨xy, xw⟩, yw, _⟩ := hnd
 have hflat : Flat S Gr.cs := H.flat (by simp) (by simp [Bx.kidsO])
 have oo : Mk.obj S o := H.obj.mpr ⟨_, .head _, rfl⟩
 have ob : ∀ c, Mk.obj S c ↔ (c = o ∨ c = x ∨ c = y ∨ c = w) := fun c => by
  rw [H.obj]; simp [eq_comm]
 have hmem : ∀ r, r ∈ refsOf S ↔ (r = (x, 1, o, 0, a, 1, ()) ∨ r = (y, 1, o, 1, b, 2, ()) ∨ r = (w, 2, o, 1, 0, 3, ())) := fun r => by
  rw [← hC.perm.mem_iff]; simp
 obtain ⟨e1, e2, e3, e4⟩ := hx
 have hsx : SoftR S Gr.cs (refsOf S) i (Mk.Rch S Gr.cs (if held then [x, y, w] else [y, w])) x ↔ held = true := by
  rw [soft_flat hflat]
  constructor
  ·rintro (⟨h, _⟩ | ⟨r, hr, _, _, _, _, _, h⟩)
   ·cases held with
    | true => rfl
    | false =>
     simp at h
     rcases h with h | h
     ·exact absurd h xy
     ·exact absurd h xw
   ·rcases (hmem r).mp hr with rfl | rfl | rfl <;> exact absurd h.symm ox
  ·rintro rfl
   exact .inl ⟨by simp, (ob x).mpr (.inr (.inl rfl))⟩
 have hsy : SoftR S Gr.cs (refsOf S) i (Mk.Rch S Gr.cs (if held then [x, y, w] else [y, w])) y := (soft_flat hflat).mpr (.inl ⟨by cases held <;> simp, (ob y).mpr (.inr (.inr (.inl rfl)))⟩)
 have h2 : ∀ c, Sp.has m2 c = true ↔ (c = y ∨ c = w ∨ (held = true ∧ c = x) ∨ (kp = true ∧ c = o)) := fun c => by
  rw [hC.has2]
  constructor
  ·intro hs
   rcases (soft_flat hflat).mp hs with ⟨h, _⟩ | ⟨r, hr, h1, _, h3, h4, _, h5⟩
   ·cases held with
    | true =>
     simp at h
     rcases h with h | h | h
     ·exact .inr (.inr (.inl ⟨rfl, h⟩))
     ·exact .inl h
     ·exact .inr (.inl h)
    | false =>
     simp at h
     rcases h with h | h
     ·exact .inl h
     ·exact .inr (.inl h)
   ·refine .inr (.inr (.inr ?_))
    rw [e1, e2, e3] at h4
    rcases (hmem r).mp hr with rfl | rfl | rfl
    ·refine ⟨?_, h5⟩
     rw [keep_300 ha.1 ha.2 hf.1 hf.2] at h4
     rw [hkp, h4, hsx.mp h3]; simp
    ·refine ⟨?_, h5⟩
     rw [keep_300 hb.1 hb.2 hf.1 hf.2] at h4
     rw [hkp, h4]; simp
    ·cases h1
  ·rintro (rfl | rfl | ⟨rfl, rfl⟩ | ⟨hk, rfl⟩)
   ·exact hsy
   ·exact (soft_flat hflat).mpr (.inl ⟨by cases held <;> simp, (ob c).mpr (.inr (.inr (.inr rfl)))⟩)
   ·exact hsx.mpr rfl
   ·rw [hkp, Bool.or_eq_true, Bool.and_eq_true] at hk
    rcases hk with hk | ⟨hh, hk⟩
    ·exact (soft_flat hflat).mpr (.inr ⟨(y, 1, c, 1, b, 2, ()), (hmem _).mpr (.inr (.inl rfl)), rfl, e4, hsy, by rw [e1, e2, e3, keep_300 hb.1 hb.2 hf.1 hf.2]; exact hk, oo, rfl⟩)
    ·exact (soft_flat hflat).mpr (.inr ⟨(x, 1, c, 0, a, 1, ()), (hmem _).mpr (.inl rfl), rfl, e4, hsx.mpr hh, by rw [e1, e2, e3, keep_300 ha.1 ha.2 hf.1 hf.2]; exact hk, oo, rfl⟩)
 have h3 : ∀ c, Sp.has m3 c = true ↔ (c = y ∨ c = w ∨ (held = true ∧ c = x) ∨ (kp = true ∧ c = o)) := fun c => by
  rw [hC.has3, h2]
  exact ⟨fun h => h.elim id fun h => absurd h Mk.rch_nil, .inl⟩
 have h2o : Sp.has m2 o = kp := by
  rw [Bool.eq_iff_iff, h2]
  exact ⟨fun h => by
   rcases h with h | h | ⟨_, h⟩ | ⟨h, _⟩
   ·exact absurd h oy
   ·exact absurd h ow
   ·exact absurd h ox
   ·exact h, fun h => .inr (.inr (.inr ⟨h, rfl⟩))⟩
 have h3o : Sp.has m3 o = kp := by
  rw [Bool.eq_iff_iff, h3]
  exact ⟨fun h => by
   rcases h with h | h | ⟨_, h⟩ | ⟨h, _⟩
   ·exact absurd h oy
   ·exact absurd h ow
   ·exact absurd h ox
   ·exact h, fun h => .inr (.inr (.inr ⟨h, rfl⟩))⟩
 have h3x : Sp.has m3 x = held := by
  rw [Bool.eq_iff_iff, h3]
  exact ⟨fun h => by
   rcases h with h | h | ⟨h, _⟩ | ⟨_, h⟩
   ·exact absurd h xy
   ·exact absurd h xw
   ·exact h
   ·exact absurd h.symm ox, fun h => .inr (.inr (.inl ⟨h, rfl⟩))⟩
 have hlo2 : ∀ c k q t n : Int, lostB S m2 (c, k, o, q, t, n, ()) = !kp := fun c k q t n => by unfold lostB; unfold Mk.obj at oo; dsimp only; rw [oo, h2o]; simp
 have hlo3 : ∀ c k q t n : Int, lostB S m3 (c, k, o, q, t, n, ()) = !kp := fun c k q t n => by unfold lostB; unfold Mk.obj at oo; dsimp only; rw [oo, h3o]; simp
 have hc : clrOf S m2 m3 [(x, 1, o, 0, a, 1, ()), (y, 1, o, 1, b, 2, ()), (w, 2, o, 1, 0, 3, ())] = (if kp then [] else [x, y, w]) := by
  unfold clrOf clearOf
  simp only [List.filter_cons, hlo2, hlo3]
  cases kp <;> simp
 have q1 : (Ob.get S x 1).1 = 0 := by rw [show (1 : Int) = ((1 : Nat) : Int) from rfl, H.get ⟨x, ⟨4, 1, 5, false⟩, [o, 0, 0, a, 1]⟩ (by simp) 1 (show ((1 : Nat) : Int) < 5 by decide)]; rfl
 have q2 : (Ob.get S y 1).1 = 1 := by rw [show (1 : Int) = ((1 : Nat) : Int) from rfl, H.get ⟨y, ⟨4, 1, 5, false⟩, [o, 1, 0, b, 2]⟩ (by simp) 1 (show ((1 : Nat) : Int) < 5 by decide)]; rfl
 have q3 : (Ob.get S w 1).1 = 1 := by rw [show (1 : Int) = ((1 : Nat) : Int) from rfl, H.get ⟨w, ⟨4, 2, 5, false⟩, [o, 1, 0, 0, 3]⟩ (by simp) 1 (show ((1 : Nat) : Int) < 5 by decide)]; rfl
 have k2 : Sp.has m3 y = true := (h3 y).mpr (.inl rfl)
 have k3 : Sp.has m3 w = true := (h3 w).mpr (.inr (.inl rfl))
 refine ⟨hc, ?_, h3o, h3x⟩
 rw [hc]
 unfold putOf
 cases kp <;> simp [List.filter_cons, q1, q2, q3, k2, k3]
theorem law_procsofts (a b lim : Int) (held : Bool) (ha : 0 ≤ a ∧ a < 256) (hb : 0 ≤ b ∧ b < 256) (hlim : 0 ≤ lim ∧ lim < 256) :
  Gl.Spec ρ Tryz.prog 12 [.int .u8 a, .int .u8 b, .int .u8 lim, .bool held] [] RB fun r M => r = true ∧ M = [] := by
 refine Spec.of (fun Q w h => F.gloaminglaw18.ProcSofts.calls a b lim held h) fun R => ?_
 unfold F.gloaminglaw18.ProcSofts
 try simp only [lca, lna]
 refine en_call (g_graph ⟨none, 0, 0⟩ [] RoS.nil1 (by simp) (by simp)) tks ?_
 rintro x' M ⟨ph, q, rfl, rfl⟩
 try simp only [lca, lna]
 have H := Bx.start
 change Bx (Gr.graph []).1 Gr.cs 60 [] at H
 generalize (Gr.graph []).1 = S0 at *
 refine Tr.drop (A := SLc q 1 ((Gr.graph []).2.map i64)) tk ?_
 refine en_brf rfl ?_
 refine en_nw fun b2 => ?_
 rw [wrap64 (n := a) (by omega) (by omega), wrap64 (n := b) (by omega) (by omega), wrap64 (n := lim) (by omega) (by omega), wrap64 (n := lim + 40) (by omega) (by omega), wrap64 (n := 300 - b) (by omega) (by omega), wrap64 (n := 300 - a) (by omega) (by omega)]
 refine Rd.bk (n := 1) (m := 1) (vs := ([0] : List Int).map i64) rfl tk fun ρ1 hle1 ro1 => ?_
 refine en_call (g_box ph S0 Gr.cs 60 [] H (by decide) ⟨some ⟨b2, 0, none⟩, 1, 1⟩ [0] ro1 (by decide) (by decide)) tks ?_
 rintro o M ⟨S1, rfl, o0, H1⟩
 try simp only [lca, lna]
 refine en_call (g_refer ph S1 Gr.cs 60 _ H1 (by simp) 1 o 0 a 1 (by decide) (by decide)) tks ?_
 rintro x M ⟨S2, rfl, w0, H2⟩
 try simp only [lca, lna]
 refine en_call (g_refer ph S2 Gr.cs 60 _ H2 (by simp) 1 o 1 b 2 (by decide) (by decide)) tks ?_
 rintro y M ⟨S3, rfl, p0, H3⟩
 try simp only [lca, lna]
 refine en_call (g_refer ph S3 Gr.cs 60 _ H3 (by simp) 2 o 1 0 3 (by decide) (by decide)) tks ?_
 rintro w M ⟨S4, rfl, s0, H4⟩
 try simp only [lca, lna]
 clear H H1 H2 H3
 change Bx S4 Gr.cs 60 [⟨o, ⟨2, 0, 1, false⟩, [0]⟩, ⟨x, ⟨4, 1, 5, false⟩, [o, 0, 0, a, 1]⟩, ⟨y, ⟨4, 1, 5, false⟩, [o, 1, 0, b, 2]⟩, ⟨w, ⟨4, 2, 5, false⟩, [o, 1, 0, 0, 3]⟩] at H4
 have hst : ∀ r ∈ refsOf S4, r.2.2.2.2.1 < 9223372036854775808 := fun r hr => by
  have hr := H4.refs.mem_iff.mp hr
  change r ∈ ([(x, 1, o, 0, a, 1, ()), (y, 1, o, 1, b, 2, ()), (w, 2, o, 1, 0, 3, ())] : List Rf6) at hr
  simp only [List.mem_cons, List.not_mem_nil, or_false] at hr
  rcases hr with rfl | rfl | rfl
  ·exact (show a < 9223372036854775808 by omega)
  ·exact (show b < 9223372036854775808 by omega)
  ·exact (show (0 : Int) < 9223372036854775808 by decide)
 refine en_brf (by simpa using o0) (en_brf (by simpa using w0) (en_brf (by simpa using p0) (en_brf (by simpa using s0) ?_)))
 refine en_nw fun b7 => en_nw fun b8 => ?_
 rw [zcIn, zcOut]
 refine en_st (b := b8) (off := 0) rfl tk (by simp) rfl ?_
 refine Tr.take (A := blk b8 (inC ⟨⟨some ⟨b7, 0, none⟩, 2, 2⟩, ⟨none, 0, 0⟩, 300, lim + 40, 1, false, 2⟩)) tk ?_
 refine Tr.imp (A := blk b7 (([y, w] : List Int).map i64)) (A' := SLc ⟨some ⟨b7, 0, none⟩, 2, 2⟩ 1 (([y, w] : List Int).map i64)) tk (SLc.of_cl rfl) ?_
 refine en_jn (fun _ M => ∃ sr : Slc, M = SLc sr 1 ((if held then [x, y, w] else [y, w]).map i64) :: blk b8 (inC ⟨sr, ⟨none, 0, 0⟩, 300, lim + 40, 1, false, 2⟩) :: HeapA ph S4 Gr.cs :: R) ?_ ?_
 ·rintro ⟨⟩ M ⟨sr, rfl⟩
  refine en_ldg (b := b8) (off := 0) (x := inT ⟨sr, ⟨none, 0, 0⟩, 300, lim + 40, 1, false, 2⟩) [] rfl tk rfl ?_
  refine Tr.keepSL (s := sr) tk fun ρ2 hle2 hro => ?_
  refine en_call (proc_process ph S4 Gr.cs H4.hw ⟨sr, ⟨none, 0, 0⟩, 300, lim + 40, 1, false, 2⟩ ⟨show (300 : Int) < _ by decide, show lim + 40 < 9223372036854775808 by omega, show (1 : Int) < _ by decide⟩ (if held then [x, y, w] else [y, w]) [] hro RoS.nil1 (by cases held <;> simp) (by simp) hst (show (1 : Int) ≤ 2 ∧ (2 : Int) ≤ 4096 by decide)) tks ?_
  rintro r14 M ⟨t1, t2, t3, t4, l, m2, m3, rfl, hC, rfl⟩
  try simp only [lca, lna]
  obtain ⟨e1, e2, e3, e4⟩ := softs_out (f := lim + 40) H4 ⟨rfl, rfl, rfl, rfl⟩ ha hb (by omega) hC _ rfl
  rw [e2, e1]
  refine en_nw fun b13 => ?_
  refine en_st (b := b13) (off := 0) rfl tk (by simp) rfl ?_
  refine Tr.take (A := blk b13 [.slice t1.a t1.n t1.c, .slice t2.a t2.n t2.c, .slice t3.a t3.n t3.c, .slice t4.a t4.n t4.c]) tk ?_
  have n4 := Mk.all_len (m := m3)
  have hm3 := hC.c3.len
  have hlen := H4.hw.wf.len
  have hmost := H4.hw.wf.most
  have i1 : decide (o ∈ Mk.all m3) = (decide (300 - b ≤ lim + 40) || (held && decide (300 - a ≤ lim + 40))) := by rw [← e3, Bool.eq_iff_iff, decide_eq_true_iff, Mk.mem_all]
  have i2 : decide (x ∈ Mk.all m3) = held := by rw [← e4, Bool.eq_iff_iff, decide_eq_true_iff, Mk.mem_all]
  generalize hkp : (decide (300 - b ≤ lim + 40) || (held && decide (300 - a ≤ lim + 40))) = kp at *
  refine Tr.nlen (s := t1) (xs := if kp then [] else [x, y, w]) tk fun n1 => ?_
  refine Tr.nlen (s := t2) (xs := if kp then [] else [y, w]) tk fun n2 => ?_
  refine Tr.keepSL (s := t1) tk fun ρ4 hle4 a1 => Tr.keepSL (s := t2) tk fun ρ5 hle5 a2 => Tr.keepSL (s := t4) tk fun ρ6 hle6 a4 => ?_
  replace a1 := (a1.le hle5).le hle6
  replace a2 := a2.le hle6
  refine en_jn (fun (u : LTs [.bool]) M => u.1 = kp ∧ M = blk b13 [.slice t1.a t1.n t1.c, .slice t2.a t2.n t2.c, .slice t3.a t3.n t3.c, .slice t4.a t4.n t4.c] :: R) ?_ ?_
  ·rintro ⟨k1, ⟨⟩⟩ M ⟨hk, rfl⟩
   dsimp only at hk
   subst hk
   iterate 1
    refine en_call (law_err _) .nil ?_
    rintro x' M ⟨rfl, rfl⟩
    try simp only [lca, lna]
   refine en_brf rfl ?_
   refine en_ld (k := .slice) (b := b13) (off := 3) (x := t4) (by rw [fa_mk]) tk rfl ?_
   refine en_call (ref_in t4 (Mk.all m3) a4 (by omega) o) tks ?_
   rintro x' M ⟨rfl, rfl⟩
   try simp only [lca, lna]
   rw [i1]
   refine en_brf (by simp) ?_
   refine en_ld (k := .slice) (b := b13) (off := 3) (x := t4) (by rw [fa_mk]) tk rfl ?_
   refine en_call (ref_in t4 (Mk.all m3) a4 (by omega) x) tks ?_
   rintro x' M ⟨rfl, rfl⟩
   try simp only [lca, lna]
   rw [i2]
   refine en_brf (by simp) ?_
   refine en_br (fun h => ?_) (fun h => ?_)
   ·have h : k1 = true := h
    rw [h, if_pos rfl] at n1 n2
    refine en_ld (k := .slice) (b := b13) (off := 0) (x := t1) (by rw [fa_mk]) tk rfl ?_
    refine en_brt (by rw [n1]; rfl) ?_
    refine en_ld (k := .slice) (b := b13) (off := 1) (x := t2) (by rw [fa_mk]) tk rfl ?_
    refine en_brt (by rw [n2]; rfl) ?_
    refine en_call (law_awake18) tks ?_
    rintro x' M ⟨rfl, rfl⟩
    try simp only [lca, lna]
    exact en_rets (x := true) rfl ⟨rfl, rfl⟩ tks ens
   ·have h : k1 = false := h
    rw [h, if_neg (by simp)] at a1 a2
    refine en_ld (k := .slice) (b := b13) (off := 0) (x := t1) (by rw [fa_mk]) tk rfl ?_
    refine en_nw fun c1 => Rd.bk (n := 3) (m := 1) (vs := ([x, y, w] : List Int).map i64) rfl tk fun ρ7 hle7 g1 => ?_
    refine en_call (same_ints t1 ⟨some ⟨c1, 0, none⟩, 3, 3⟩ [x, y, w] [x, y, w] (a1.le hle7) g1 (by simp)) tks ?_
    rintro x' M ⟨rfl, rfl⟩
    try simp only [lca, lna]
    refine en_brt (by simp) ?_
    refine en_ld (k := .slice) (b := b13) (off := 1) (x := t2) (by rw [fa_mk]) tk rfl ?_
    refine en_nw fun c2 => Rd.bk (n := 2) (m := 1) (vs := ([y, w] : List Int).map i64) rfl tk fun ρ8 hle8 g2 => ?_
    refine en_call (same_ints t2 ⟨some ⟨c2, 0, none⟩, 2, 2⟩ [y, w] [y, w] ((a2.le hle7).le hle8) g2 (by simp)) tks ?_
    rintro x' M ⟨rfl, rfl⟩
    try simp only [lca, lna]
    refine en_brt (by simp) ?_
    refine en_call (law_awake18) tks ?_
    rintro x' M ⟨rfl, rfl⟩
    try simp only [lca, lna]
    exact en_rets (x := true) rfl ⟨rfl, rfl⟩ tks ens
  ·intro J hJ
   refine Tr.drop (A := SLc t3 1 ((pendOf S4 m2 []).map i64)) tk (Tr.drop (A := HeapA ph S4 Gr.cs) tk (Tr.drop (A := blk b8 (inC ⟨sr, ⟨none, 0, 0⟩, 300, lim + 40, 1, false, 2⟩)) tk ?_))
   refine en_br (fun h => ?_) (fun h => ?_)
   ·exact hJ (true, ()) _ ⟨by rw [← hkp, h]; simp, rfl⟩
   ·refine en_br (fun h2 => ?_) (fun h2 => ?_)
    ·exact hJ (_, ()) _ ⟨by rw [← hkp, h, h2]; simp, rfl⟩
    ·exact hJ (false, ()) _ ⟨by rw [← hkp, h, h2]; simp, rfl⟩
 ·intro J hJ
  refine en_br (fun h => ?_) (fun h => ?_)
  ·subst h
   refine en_nw fun b24 => ?_
   refine Tr.imp (A := blk b24 (([x, y, w] : List Int).map i64)) (A' := SLc ⟨some ⟨b24, 0, none⟩, 3, 3⟩ 1 (([x, y, w] : List Int).map i64)) tk (SLc.of_cl rfl) ?_
   refine en_st (b := b8) (off := 0) rfl tk (by simp) rfl ?_
   refine Tr.drop (A := SLc ⟨some ⟨b7, 0, none⟩, 2, 2⟩ 1 (([y, w] : List Int).map i64)) tk ?_
   refine Tr.take (A := blk b8 (inC ⟨⟨some ⟨b24, 0, none⟩, 3, 3⟩, ⟨none, 0, 0⟩, 300, lim + 40, 1, false, 2⟩)) tk (Tr.take (A := SLc ⟨some ⟨b24, 0, none⟩, 3, 3⟩ 1 (([x, y, w] : List Int).map i64)) tk ?_)
   exact hJ () _ ⟨⟨some ⟨b24, 0, none⟩, 3, 3⟩, rfl⟩
  ·subst h
   exact hJ () _ ⟨⟨some ⟨b7, 0, none⟩, 2, 2⟩, rfl⟩
end Go.Proofs.YtpefngbfgjfcgaaGreat
