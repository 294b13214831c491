/- ProcPhantoms. -/
import Derived.Test.YtpefngbfgjfcgaaGreatGsFlat
import Derived.Test.YtpefngbfgjfcgaaGreatGsTxProcPhantoms
set_option linter.unusedSimpArgs false
set_option linter.unusedVariables false
namespace Go.Proofs.YtpefngbfgjfcgaaGreat
open Go Go.Gl
variable {ρ0 ρ : FR} {L L' : List Asn} {Post : Value → List Asn → Prop} {T : Tree}
theorem phantoms_out {S : Spc} {o w p s : Int} (H : Bx S Gr.cs 60 [⟨o, ⟨2, 0, 1, false⟩, [0]⟩, ⟨w, ⟨4, 2, 5, false⟩, [o, 1, 0, 0, 1]⟩, ⟨p, ⟨4, 3, 5, false⟩, [o, 1, 0, 0, 2]⟩, ⟨s, ⟨4, 1, 5, false⟩, [o, 0, 0, 0, 3]⟩]) {x : In7} (hx : x.clock = 9 ∧ x.free = 0 ∧ x.rate = 0) {held final : Bool} {l : List Rf6} {m2 m3 : List Bool}
  (hC : Coll S Gr.cs x ([w, p, s] ++ if held then [o] else []) (if final then [o] else []) l m2 m3) :
  clrOf S m2 m3 l = (if held then [] else if final then [w, s] else [w, s, p]) ∧ putOf S m3 (clrOf S m2 m3 l) = (if held then [] else if final then [w] else [w, p]) ∧ pendOf S m2 (if final then [o] else []) = (if held then [] else if final then [o] else []) ∧ (Mk.all m3).length = (if held || final then 4 else 3) := by
 have hl : l = [(w, 2, o, 1, 0, 1, ()), (p, 3, o, 1, 0, 2, ()), (s, 1, o, 0, 0, 3, ())] := H.l_is hC (lr := [(w, 2, o, 1, 0, 1, ()), (p, 3, o, 1, 0, 2, ()), (s, 1, o, 0, 0, 3, ())]) (.refl _) (by simp [key6])
 subst hl
 have hnd := H.nodup
 simp only [List.map_cons, List.map_nil, List.nodup_cons, List.mem_cons, List.not_mem_nil, or_false, not_or] at hnd
 obtain ⟨⟨ow, op, os⟩, ⟨wp, ws⟩, ps, _⟩ := hnd
 have hflat : Flat S Gr.cs := H.flat (by simp) (by simp [Bx.kidsO])
 have oo : Mk.obj S o := H.obj.mpr ⟨_, .head _, rfl⟩
 have ob : ∀ a, Mk.obj S a ↔ (a = o ∨ a = w ∨ a = p ∨ a = s) := fun a => by
  rw [H.obj]; simp [eq_comm]
 have h2 : ∀ a, Sp.has m2 a = true ↔ (a = w ∨ a = p ∨ a = s ∨ (held = true ∧ a = o)) := fun a => by
  rw [hC.has2, soft_flat hflat]
  constructor
  ·rintro (⟨h, _⟩ | ⟨r, hr, h1, _, _, h4, _, _⟩)
   ·cases held <;> simpa using h
   ·obtain ⟨e1, e2, e3⟩ := hx
    rw [e1, e2, e3] at h4
    have hr' := hC.perm.mem_iff.mpr hr
    simp only [List.mem_cons, List.not_mem_nil, or_false] at hr'
    rcases hr' with rfl | rfl | rfl
    ·cases h1
    ·cases h1
    ·exact absurd h4 (show ¬ Sf.keep 9 0 0 0 = true by decide)
  ·intro h
   refine .inl ⟨?_, (ob a).mpr ?_⟩
   ·rcases h with rfl | rfl | rfl | ⟨rfl, rfl⟩ <;> simp
   ·rcases h with rfl | rfl | rfl | ⟨_, rfl⟩ <;> simp
 have h2o : Sp.has m2 o = held := by
  cases held with
  | true => exact (h2 o).mpr (.inr (.inr (.inr ⟨rfl, rfl⟩)))
  | false =>
   cases e : Sp.has m2 o with
   | false => rfl
   | true => rcases (h2 o).mp e with e | e | e | ⟨e, _⟩ <;> first | exact absurd e ow | exact absurd e op | exact absurd e os | cases e
 have hp : pendOf S m2 (if final then [o] else []) = (if held then [] else if final then [o] else []) := by
  have hlo : lostB S m2 (0, 0, o, 0, 0, 0, ()) = !held := by unfold lostB; unfold Mk.obj at oo; dsimp only; rw [oo, h2o]; simp
  cases final with
  | false => cases held <;> rfl
  | true =>
   unfold pendOf
   rw [if_pos rfl, List.foldl_cons, List.foldl_nil]
   unfold pend1
   cases held <;> simp [hlo]
 have h3 : ∀ a, Sp.has m3 a = true ↔ (a = w ∨ a = p ∨ a = s ∨ ((held || final) = true ∧ a = o)) := fun a => by
  rw [hC.has3, h2, hp, rch_flat hflat]
  cases held <;> cases final <;> simp
  ·constructor
   ·rintro ((h | h | h) | ⟨h, _⟩)
    ·exact .inl h
    ·exact .inr (.inl h)
    ·exact .inr (.inr (.inl h))
    ·exact .inr (.inr (.inr h))
   ·rintro (h | h | h | h)
    ·exact .inl (.inl h)
    ·exact .inl (.inr (.inl h))
    ·exact .inl (.inr (.inr h))
    ·exact .inr ⟨h, by rw [h]; exact oo⟩
 have h3o : Sp.has m3 o = (held || final) := by
  cases e : Sp.has m3 o with
  | false =>
   cases hf : (held || final) with
   | false => rfl
   | true => rw [(h3 o).mpr (.inr (.inr (.inr ⟨hf, rfl⟩)))] at e; cases e
  | true =>
   rcases (h3 o).mp e with e | e | e | ⟨e, _⟩
   ·exact absurd e ow
   ·exact absurd e op
   ·exact absurd e os
   ·exact e.symm
 have hlo2 : ∀ a k q t n : Int, lostB S m2 (a, k, o, q, t, n, ()) = !held := fun a k q t n => by unfold lostB; unfold Mk.obj at oo; dsimp only; rw [oo, h2o]; simp
 have hlo3 : ∀ a k q t n : Int, lostB S m3 (a, k, o, q, t, n, ()) = !(held || final) := fun a k q t n => by unfold lostB; unfold Mk.obj at oo; dsimp only; rw [oo, h3o]; simp
 have hc : clrOf S m2 m3 [(w, 2, o, 1, 0, 1, ()), (p, 3, o, 1, 0, 2, ()), (s, 1, o, 0, 0, 3, ())] = (if held then [] else if final then [w, s] else [w, s, p]) := by
  unfold clrOf clearOf
  simp only [List.filter_cons, hlo2, hlo3]
  cases held <;> cases final <;> simp
 have q1 : (Ob.get S w 1).1 = 1 := by rw [show (1 : Int) = ((1 : Nat) : Int) from rfl, H.get ⟨w, ⟨4, 2, 5, false⟩, [o, 1, 0, 0, 1]⟩ (by simp) 1 (show ((1 : Nat) : Int) < 5 by decide)]; rfl
 have q2 : (Ob.get S p 1).1 = 1 := by rw [show (1 : Int) = ((1 : Nat) : Int) from rfl, H.get ⟨p, ⟨4, 3, 5, false⟩, [o, 1, 0, 0, 2]⟩ (by simp) 1 (show ((1 : Nat) : Int) < 5 by decide)]; rfl
 have q3 : (Ob.get S s 1).1 = 0 := by rw [show (1 : Int) = ((1 : Nat) : Int) from rfl, H.get ⟨s, ⟨4, 1, 5, false⟩, [o, 0, 0, 0, 3]⟩ (by simp) 1 (show ((1 : Nat) : Int) < 5 by decide)]; rfl
 have k1 : Sp.has m3 w = true := (h3 w).mpr (.inl rfl)
 have k2 : Sp.has m3 p = true := (h3 p).mpr (.inr (.inl rfl))
 have k3 : Sp.has m3 s = true := (h3 s).mpr (.inr (.inr (.inl rfl)))
 refine ⟨hc, ?_, hp, ?_⟩
 ·rw [hc]
  unfold putOf
  cases held <;> cases final <;> simp [List.filter_cons, q1, q2, q3, k1, k2, k3]
 ·have hap := fun (L : List Int) (hn : L.Nodup) (h : ∀ a, Sp.has m3 a = true ↔ a ∈ L) => (Mk.all_perm hn h).length_eq
  cases e : (held || final) with
  | true =>
   rw [e] at h3
   rw [hap [w, p, s, o] (by simp only [List.nodup_cons, List.mem_cons, List.not_mem_nil, or_false, not_or]; exact ⟨⟨wp, ws, fun e => ow e.symm⟩, ⟨ps, fun e => op e.symm⟩, fun e => os e.symm, by simp⟩) (fun a => by rw [h3]; simp)]; rfl
  | false =>
   rw [e] at h3
   rw [hap [w, p, s] (by simp only [List.nodup_cons, List.mem_cons, List.not_mem_nil, or_false, not_or]; exact ⟨⟨wp, ws⟩, ps, by simp⟩) (fun a => by rw [h3]; simp)]; rfl
theorem law_procphantoms (final held : Bool) (n : Int) (hn : 0 ≤ n ∧ n < 256) :
  Gl.Spec ρ Tryz.prog 8 [.bool final, .bool held, .int .u8 n] [] RB fun r M => r = true ∧ M = [] := by
 refine Spec.of (fun Q w h => F.gloaminglaw18.ProcPhantoms.calls final held n h) fun R => ?_
 unfold F.gloaminglaw18.ProcPhantoms
 try simp only [lca, lna]
 refine en_call (g_graph ⟨none, 0, 0⟩ [] RoS.nil1 (by simp) (by simp)) tks ?_
 rintro x' M ⟨ph, q, rfl, rfl⟩
 try simp only [lca, lna]
 have H := Bx.start
 change Bx (Gr.graph []).1 Gr.cs 60 [] at H
 generalize (Gr.graph []).1 = S0 at *
 refine Tr.drop (A := SLc q 1 ((Gr.graph []).2.map i64)) tk ?_
 refine en_brf rfl ?_
 refine en_nw fun b2 => ?_
 refine Rd.bk (n := 1) (m := 1) (vs := ([0] : List Int).map i64) rfl tk fun ρ1 hle1 ro1 => ?_
 refine en_call (g_box ph S0 Gr.cs 60 [] H (by decide) ⟨some ⟨b2, 0, none⟩, 1, 1⟩ [0] ro1 (by decide) (by decide)) tks ?_
 rintro o M ⟨S1, rfl, o0, H1⟩
 try simp only [lca, lna]
 refine en_call (g_refer ph S1 Gr.cs 60 _ H1 (by simp) 2 o 1 0 1 (by decide) (by decide)) tks ?_
 rintro w M ⟨S2, rfl, w0, H2⟩
 try simp only [lca, lna]
 refine en_call (g_refer ph S2 Gr.cs 60 _ H2 (by simp) 3 o 1 0 2 (by decide) (by decide)) tks ?_
 rintro p M ⟨S3, rfl, p0, H3⟩
 try simp only [lca, lna]
 refine en_call (g_refer ph S3 Gr.cs 60 _ H3 (by simp) 1 o 0 0 3 (by decide) (by decide)) tks ?_
 rintro s M ⟨S4, rfl, s0, H4⟩
 try simp only [lca, lna]
 clear H H1 H2 H3
 change Bx S4 Gr.cs 60 [⟨o, ⟨2, 0, 1, false⟩, [0]⟩, ⟨w, ⟨4, 2, 5, false⟩, [o, 1, 0, 0, 1]⟩, ⟨p, ⟨4, 3, 5, false⟩, [o, 1, 0, 0, 2]⟩, ⟨s, ⟨4, 1, 5, false⟩, [o, 0, 0, 0, 3]⟩] at H4
 have hst : ∀ r ∈ refsOf S4, r.2.2.2.2.1 < 9223372036854775808 := fun r hr => by
  have hr := H4.refs.mem_iff.mp hr
  change r ∈ ([(w, 2, o, 1, 0, 1, ()), (p, 3, o, 1, 0, 2, ()), (s, 1, o, 0, 0, 3, ())] : List Rf6) at hr
  simp only [List.mem_cons, List.not_mem_nil, or_false] at hr
  rcases hr with rfl | rfl | rfl <;> exact (show (0 : Int) < 9223372036854775808 by decide)
 refine en_brf (by simpa using o0) (en_brf (by simpa using w0) (en_brf (by simpa using p0) (en_brf (by simpa using s0) ?_)))
 refine en_nw fun b7 => en_need (by decide) (en_nw fun b8 => ?_)
 rw [zcIn, zcOut, wrap64 (n := n) (by omega) (by omega), Int.tmod_eq_emod_of_nonneg hn.1, wrap64 (n := 1 + n % 9) (by omega) (by omega)]
 refine en_st (b := b8) (off := 0) rfl tk (by simp) rfl ?_
 refine Tr.take (A := blk b8 (inC ⟨⟨some ⟨b7, 0, none⟩, 3, 3⟩, ⟨none, 0, 0⟩, 9, 0, 0, false, 1 + n % 9⟩)) tk ?_
 refine Tr.imp (A := blk b7 (([w, p, s] : List Int).map i64)) (A' := SLc ⟨some ⟨b7, 0, none⟩, 3, 3⟩ 1 (([w, p, s] : List Int).map i64)) tk (SLc.of_cl rfl) ?_
 refine en_jn (fun _ M => ∃ sf : Slc, M = SLc sf 1 ((if final then [o] else []).map i64) :: blk b8 (inC ⟨⟨some ⟨b7, 0, none⟩, 3, 3⟩, sf, 9, 0, 0, false, 1 + n % 9⟩) :: SLc ⟨some ⟨b7, 0, none⟩, 3, 3⟩ 1 (([w, p, s] : List Int).map i64) :: HeapA ph S4 Gr.cs :: R) ?_ ?_
 ·rintro ⟨⟩ M ⟨sf, rfl⟩
  refine en_jn (fun _ M => ∃ sr : Slc, M = SLc sr 1 (([w, p, s] ++ if held then [o] else []).map i64) :: blk b8 (inC ⟨sr, sf, 9, 0, 0, false, 1 + n % 9⟩) :: SLc sf 1 ((if final then [o] else []).map i64) :: HeapA ph S4 Gr.cs :: R) ?_ ?_
  ·rintro ⟨⟩ M ⟨sr, rfl⟩
   refine en_ldg (b := b8) (off := 0) (x := inT ⟨sr, sf, 9, 0, 0, false, 1 + n % 9⟩) [] rfl tk rfl ?_
   refine Tr.keepSL (s := sr) tk fun ρ2 hle2 hro => Tr.keepSL (s := sf) tk fun ρ3 hle3 hfi => ?_
   replace hro := hro.le hle3
   refine en_call (proc_process ph S4 Gr.cs H4.hw ⟨sr, sf, 9, 0, 0, false, 1 + n % 9⟩ ⟨show (9 : Int) < _ by decide, show (0 : Int) < _ by decide, show (0 : Int) < _ by decide⟩ ([w, p, s] ++ if held then [o] else []) (if final then [o] else []) hro hfi (by cases held <;> simp) (by cases final <;> simp) hst (by dsimp only; omega)) tks ?_
   rintro r14 M ⟨t1, t2, t3, t4, l, m2, m3, rfl, hC, rfl⟩
   try simp only [lca, lna]
   obtain ⟨e1, e2, e3, e4⟩ := phantoms_out H4 ⟨rfl, rfl, rfl⟩ hC
   rw [e2, e1, e3]
   refine en_nw fun b15 => ?_
   refine en_st (b := b15) (off := 0) rfl tk (by simp) rfl ?_
   refine Tr.take (A := blk b15 [.slice t1.a t1.n t1.c, .slice t2.a t2.n t2.c, .slice t3.a t3.n t3.c, .slice t4.a t4.n t4.c]) tk ?_
   refine Tr.nlen (s := t1) (xs := if held then [] else if final then [w, s] else [w, s, p]) tk fun n1 => ?_
   refine Tr.nlen (s := t2) (xs := if held then [] else if final then [w] else [w, p]) tk fun n2 => ?_
   refine Tr.nlen (s := t3) (xs := if held then [] else if final then [o] else []) tk fun n3 => ?_
   refine Tr.nlen (s := t4) (xs := Mk.all m3) tk fun n4 => ?_
   rw [e4] at n4
   refine Tr.keepSL (s := t1) tk fun ρ4 hle4 a1 => Tr.keepSL (s := t2) tk fun ρ5 hle5 a2 => Tr.keepSL (s := t3) tk fun ρ6 hle6 a3 => ?_
   replace a1 := (a1.le hle5).le hle6
   replace a2 := a2.le hle6
   iterate 1
    refine en_call (law_err _) .nil ?_
    rintro x' M ⟨rfl, rfl⟩
    try simp only [lca, lna]
   refine en_brf rfl ?_
   cases held with
   | true =>
    rw [if_pos rfl] at n1 n2 n3
    refine en_brt rfl ?_
    refine en_ld (k := .slice) (b := b15) (off := 0) (x := t1) (by rw [fa_mk]) tk rfl ?_
    refine en_ld (k := .slice) (b := b15) (off := 1) (x := t2) (by rw [fa_mk]) tk rfl ?_
    refine en_ld (k := .slice) (b := b15) (off := 2) (x := t3) (by rw [fa_mk]) tk rfl ?_
    rw [n1, n2, n3]
    refine en_brt rfl ?_
    refine en_ld (k := .slice) (b := b15) (off := 3) (x := t4) (by rw [fa_mk]) tk rfl ?_
    refine en_brt (by rw [n4]; rfl) ?_
    refine en_call (law_awake18) tks ?_
    rintro x' M ⟨rfl, rfl⟩
    try simp only [lca, lna]
    exact en_rets (x := true) rfl ⟨rfl, rfl⟩ tks ens
   | false =>
    refine en_brf rfl ?_
    rw [if_neg (by simp)] at n1 n2 n3 a1 a2 a3
    cases final with
    | true =>
     rw [if_pos rfl] at n1 n2 n3 a1 a2 a3
     refine en_brt rfl ?_
     refine en_ld (k := .slice) (b := b15) (off := 0) (x := t1) (by rw [fa_mk]) tk rfl ?_
     refine en_nw fun c1 => Rd.bk (n := 2) (m := 1) (vs := ([w, s] : List Int).map i64) rfl tk fun ρ7 hle7 g1 => ?_
     refine en_call (same_ints t1 ⟨some ⟨c1, 0, none⟩, 2, 2⟩ [w, s] [w, s] (a1.le hle7) g1 (by simp)) tks ?_
     rintro x' M ⟨rfl, rfl⟩
     try simp only [lca, lna]
     refine en_brt (by simp) ?_
     refine en_ld (k := .slice) (b := b15) (off := 1) (x := t2) (by rw [fa_mk]) tk rfl ?_
     refine en_nw fun c2 => Rd.bk (n := 1) (m := 1) (vs := ([w] : List Int).map i64) rfl tk fun ρ8 hle8 g2 => ?_
     refine en_call (same_ints t2 ⟨some ⟨c2, 0, none⟩, 1, 1⟩ [w] [w] ((a2.le hle7).le hle8) g2 (by simp)) tks ?_
     rintro x' M ⟨rfl, rfl⟩
     try simp only [lca, lna]
     refine en_brt (by simp) ?_
     refine en_ld (k := .slice) (b := b15) (off := 2) (x := t3) (by rw [fa_mk]) tk rfl ?_
     refine en_nw fun c3 => Rd.bk (n := 1) (m := 1) (vs := ([o] : List Int).map i64) rfl tk fun ρ9 hle9 g3 => ?_
     refine en_call (same_ints t3 ⟨some ⟨c3, 0, none⟩, 1, 1⟩ [o] [o] (((a3.le hle7).le hle8).le hle9) g3 (by simp)) tks ?_
     rintro x' M ⟨rfl, rfl⟩
     try simp only [lca, lna]
     refine en_brt (by simp) ?_
     refine en_ld (k := .slice) (b := b15) (off := 3) (x := t4) (by rw [fa_mk]) tk rfl ?_
     refine en_brt (by rw [n4]; rfl) ?_
     refine en_call (law_awake18) tks ?_
     rintro x' M ⟨rfl, rfl⟩
     try simp only [lca, lna]
     exact en_rets (x := true) rfl ⟨rfl, rfl⟩ tks ens
    | false =>
     rw [if_neg (by simp)] at n1 n2 n3 a1 a2 a3
     refine en_brf rfl ?_
     refine en_ld (k := .slice) (b := b15) (off := 0) (x := t1) (by rw [fa_mk]) tk rfl ?_
     refine en_nw fun c1 => Rd.bk (n := 3) (m := 1) (vs := ([w, s, p] : List Int).map i64) rfl tk fun ρ7 hle7 g1 => ?_
     refine en_call (same_ints t1 ⟨some ⟨c1, 0, none⟩, 3, 3⟩ [w, s, p] [w, s, p] (a1.le hle7) g1 (by simp)) tks ?_
     rintro x' M ⟨rfl, rfl⟩
     try simp only [lca, lna]
     refine en_brt (by simp) ?_
     refine en_ld (k := .slice) (b := b15) (off := 1) (x := t2) (by rw [fa_mk]) tk rfl ?_
     refine en_nw fun c2 => Rd.bk (n := 2) (m := 1) (vs := ([w, p] : List Int).map i64) rfl tk fun ρ8 hle8 g2 => ?_
     refine en_call (same_ints t2 ⟨some ⟨c2, 0, none⟩, 2, 2⟩ [w, p] [w, p] ((a2.le hle7).le hle8) g2 (by simp)) tks ?_
     rintro x' M ⟨rfl, rfl⟩
     try simp only [lca, lna]
     refine en_brt (by simp) ?_
     refine en_ld (k := .slice) (b := b15) (off := 2) (x := t3) (by rw [fa_mk]) tk rfl ?_
     refine en_brt (by rw [n3]; rfl) ?_
     refine en_ld (k := .slice) (b := b15) (off := 3) (x := t4) (by rw [fa_mk]) tk rfl ?_
     refine en_brt (by rw [n4]; rfl) ?_
     refine en_call (law_awake18) tks ?_
     rintro x' M ⟨rfl, rfl⟩
     try simp only [lca, lna]
     exact en_rets (x := true) rfl ⟨rfl, rfl⟩ tks ens
  ·intro J hJ
   refine en_br (fun h => ?_) (fun h => ?_)
   ·subst h
    refine en_ld (k := .slice) (b := b8) (off := 0) (x := ⟨some ⟨b7, 0, none⟩, 3, 3⟩) (by rw [fa_mk]) tk rfl ?_
    refine en_appI (s := ⟨some ⟨b7, 0, none⟩, 3, 3⟩) (xs := [w, p, s]) appInt tk (by simp) fun r22 h22 => ?_
    refine en_st (b := b8) (off := 0) rfl tk (by simp) rfl ?_
    refine Tr.take (A := blk b8 (inC ⟨r22, sf, 9, 0, 0, false, 1 + n % 9⟩)) tk (Tr.take (A := SLc r22 1 (([w, p, s] ++ [o]).map i64)) tk ?_)
    exact hJ () _ ⟨r22, rfl⟩
   ·subst h
    refine Tr.take (A := blk b8 (inC ⟨⟨some ⟨b7, 0, none⟩, 3, 3⟩, sf, 9, 0, 0, false, 1 + n % 9⟩)) tk (Tr.take (A := SLc ⟨some ⟨b7, 0, none⟩, 3, 3⟩ 1 (([w, p, s] : List Int).map i64)) tk ?_)
    exact hJ () _ ⟨⟨some ⟨b7, 0, none⟩, 3, 3⟩, rfl⟩
 ·intro J hJ
  refine en_br (fun h => ?_) (fun h => ?_)
  ·subst h
   refine en_nw fun b20 => ?_
   refine Tr.imp (A := blk b20 (([o] : List Int).map i64)) (A' := SLc ⟨some ⟨b20, 0, none⟩, 1, 1⟩ 1 (([o] : List Int).map i64)) tk (SLc.of_cl rfl) ?_
   refine en_st (b := b8) (off := 1) rfl tk (by simp) rfl ?_
   refine Tr.take (A := SLc ⟨some ⟨b7, 0, none⟩, 3, 3⟩ 1 (([w, p, s] : List Int).map i64)) tk (Tr.take (A := blk b8 (inC ⟨⟨some ⟨b7, 0, none⟩, 3, 3⟩, ⟨some ⟨b20, 0, none⟩, 1, 1⟩, 9, 0, 0, false, 1 + n % 9⟩)) tk (Tr.take (A := SLc ⟨some ⟨b20, 0, none⟩, 1, 1⟩ 1 (([o] : List Int).map i64)) tk ?_))
   exact hJ () _ ⟨⟨some ⟨b20, 0, none⟩, 1, 1⟩, rfl⟩
  ·subst h
   refine Tr.take (A := SLc ⟨some ⟨b7, 0, none⟩, 3, 3⟩ 1 (([w, p, s] : List Int).map i64)) tk (Tr.take (A := blk b8 (inC ⟨⟨some ⟨b7, 0, none⟩, 3, 3⟩, ⟨none, 0, 0⟩, 9, 0, 0, false, 1 + n % 9⟩)) tk ?_)
   refine Tr.nilSL 1 ?_
   exact hJ () _ ⟨⟨none, 0, 0⟩, rfl⟩
end Go.Proofs.YtpefngbfgjfcgaaGreat
