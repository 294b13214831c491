/- The law GcViews. -/
import Derived.Test.YtdplphebjhfliaaGreatGsL20c
import Derived.Test.YtdplphebjhfliaaGreatGsTxGcViews
set_option linter.unusedSimpArgs false
set_option linter.unusedVariables false
namespace Go.Proofs.YtdplphebjhfliaaGreat
open Go Go.Gl
variable {ρ0 ρ : FR} {L L' : List Asn} {Post : Value → List Asn → Prop} {T : Tree}
theorem ObsA.op2 {s : Slc} {os : List Ob1} (t : Take L (ObsA s os) L') (h : ∀ l : List (Ob1 × Slc), s.n = os.length → l.map (·.1) = os → Tr ρ0 ρ (SLc s 6 (l.flatMap obCs) :: star (l.map ObA) :: L') T Post) : Tr ρ0 ρ L T Post :=
 Tr.openL (M := fun l : List (Ob1 × Slc) => [SLc s 6 (l.flatMap obCs), star (l.map ObA)]) (c := fun l => s.n = os.length ∧ l.map (·.1) = os ∧ ∀ x ∈ l, x.2.n = x.1.ws.length) t (fun _ h => h) (fun l c => h l c.1 c.2.1)
theorem Bx.final {S : Spc} {cs : List Cls} {P : Nat} {os : List Ob1} (H : Bx S cs P os) {o : Ob1} (ho : o ∈ os) (hk : o.h.k ≠ 4) (hf : o.h.f = false) : (Ob.final S o.a).1 = 0 ∧ Bx (Ob.final S o.a).2 cs P (os.map (Om.fi o.a)) := by
 obtain ⟨h1, h2⟩ := H.bo.final ho hk hf
 have hpg : (Ob.final S o.a).2.pg = S.pg := by
  unfold Ob.final
  rw [H.head o ho]
  dsimp only
  rw [if_neg hk, if_neg (by rw [hf]; simp)]
 exact ⟨h1, h2.hw, by rw [hpg, List.length_map]; exact H.pfx, by rw [hpg]; exact H.pgs, h2.each, h2.head, h2.len, h2.get⟩
theorem objs_as (S : Spc) : (Ob.objs S).map (·.a) = Sp.each S := by
 unfold Ob.objs
 rw [List.map_map]
 conv => rhs; rw [← List.map_id (Sp.each S)]
 refine List.map_congr_left fun a _ => ?_
 show (Ob.at1 S a).a = a
 unfold Ob.at1; split <;> rfl
theorem objs_two {S : Spc} {cs : List Cls} {A B : Ob1} (H : Bo S cs [A, B]) : ∃ p q, Ob.objs S = [p, q] ∧ p.a = if B.a < A.a then B.a else A.a := by
 have hl := H.objs.length_eq
 have hs := Sp.each_sorted H.hw.wf
 rw [← objs_as] at hs
 have hp := H.objs
 match Ob.objs S, hl, hs, hp with
 | [p, q], _, hs, hp =>
  refine ⟨p, q, rfl, ?_⟩
  have hlt : p.a < q.a := by simpa using hs
  have h1 : p ∈ [A, B] := hp.mem_iff.mp (by simp)
  have h2 : q ∈ [A, B] := hp.mem_iff.mp (by simp)
  have h3 : A ∈ [p, q] := hp.mem_iff.mpr (by simp)
  have h4 : B ∈ [p, q] := hp.mem_iff.mpr (by simp)
  simp only [List.mem_cons, List.not_mem_nil, or_false] at h1 h2 h3 h4
  rcases h1 with rfl | rfl
  ·rcases h4 with h4 | h4
   ·rcases h2 with h2 | h2
    ·rw [h2] at hlt; omega
    ·rw [← h4, ← h2] at hlt ⊢; omega
   ·rw [h4, if_neg (by omega)]
  ·rcases h3 with h3 | h3
   ·rcases h2 with h2 | h2
    ·rw [h2, h3] at hlt; omega
    ·rw [h2] at hlt; omega
   ·rw [h3, if_pos hlt]
theorem all_one {hs : List Hn.Slot} (hl : hs.length = 512) {a : Int} (ha : a ≠ 0) (h : ∀ t, Hn.at' hs t = if t = 0 then (0, a) else (0, 0)) : Hn.all hs = [(512, a)] := by
 unfold Hn.all
 rw [hl, show (512 : Nat) = 511 + 1 from rfl, List.range_succ_eq_map, List.flatMap_cons]
 have e0 : Hn.all1 hs 0 = [(512, a)] := by
  unfold Hn.all1 Hn.told
  rw [h, if_pos rfl, if_pos ha]; rfl
 have e1 : ((List.range 511).map Nat.succ).flatMap (Hn.all1 hs) = [] := by
  rw [List.flatMap_eq_nil_iff]
  intro t ht
  obtain ⟨j, _, rfl⟩ := List.mem_map.mp ht
  unfold Hn.all1
  rw [h, if_neg (Nat.succ_ne_zero j), if_neg (by simp)]
 rw [e0, e1]; rfl
theorem law_gcviews (at_ t x : Int) (hat : 0 ≤ at_ ∧ at_ < 256) (ht : 0 ≤ t ∧ t < 65536) : Gl.Spec ρ Tryz.prog 8 [.int .u8 at_, .int .u16 t, i64 x] [] RB fun r M => r = true ∧ M = [] := by
 refine Gl.Spec.of (fun Q w h => F.gloaminglaw20.GcViews.calls at_ t x h) fun R => ?_
 unfold F.gloaminglaw20.GcViews
 rw [wrap64 (n := at_) (by omega) (by omega), wrap64 (n := t) (by omega) (by omega), Int.tmod_eq_emod_of_nonneg hat.1, zcView]
 obtain ⟨k, hke, hk1, hk2⟩ : ∃ k : Int, at_ % 16 = k ∧ 0 ≤ k ∧ k < 16 := ⟨_, rfl, by omega, by omega⟩
 rw [hke]
 clear hke
 refine en_call (made60 1 2 (by decide) (by decide)) tks ?_
 rintro _ _ ⟨i, S0, hs0, ro, rfl, rfl, b0, w0, h0, r0, hro⟩
 try simp only [lca, lna]
 change Wl S0 [] [[], []] 0 [] [] at w0
 refine en_brf rfl ?_
 have hf0 : Hn.free hs0 = some 0 := Hn.free_is (by rw [h0.len]; decide) (by rw [r0]) fun t ht => by omega
 have ht0 : Hn.told hs0 0 = 512 := by unfold Hn.told; rw [r0]; rfl
 refine en_call (box60 i b0 w0 h0 (by decide) (by decide) hf0 2 (by decide) (by decide)) tks ?_
 rintro _ _ ⟨o, S1, hs1, rfl, rfl, ho, b1, w1, h1, r1⟩
 try simp only [lca, lna]
 rw [ht0]
 change Bx S1 [] 60 [⟨o, ⟨2, 0, 2, false⟩, [0, 0]⟩] at b1
 have hall := all_one h1.len (Int.ne_of_gt ho) fun t => by rw [r1, r0]; by_cases e : t = 0 <;> simp [e, r0]
 refine en_nn ?_
 refine en_ld (k := .ptr) (b := i.p) (off := 3) (x := some ⟨i.f, 0, none⟩) (by rw [fa_mk]) tk rfl ?_
 obtain ⟨e2, b2⟩ := b1.final (o := ⟨o, ⟨2, 0, 2, false⟩, [0, 0]⟩) (by simp) (by show (2 : Int) ≠ 4; decide) rfl
 have w2 := w1.await o
 change (Ob.final S1 o).1 = 0 at e2
 have b2 : Bx (Ob.final S1 o).2 [] 60 [⟨o, ⟨2, 0, 2, true⟩, [0, 0]⟩] := by
  have : ([⟨o, ⟨2, 0, 2, false⟩, [0, 0]⟩] : List Ob1).map (Om.fi o) = [⟨o, ⟨2, 0, 2, true⟩, [0, 0]⟩] := by simp [Om.fi]
  rw [← this]; exact b2
 refine en_call (fin_await i.f i.b S1 [] b1.hw [] [] (by decide) o) tks ?_
 rintro x' M ⟨rfl, rfl⟩
 try simp only [lca, lna]
 rw [e2, if_pos rfl]
 rw [if_pos e2] at w2
 generalize (Ob.final S1 o).2 = S2 at *
 refine en_need (by decide) ?_
 refine en_nn ?_
 refine en_ld (k := .ptr) (b := i.p) (off := 2) (x := some ⟨i.o, 0, none⟩) (by rw [fa_mk]) tk rfl ?_
 have hrol : ro.length = 16 := by rw [hro]; rfl
 refine en_call (root_place i.o ro hrol k o) tks ?_
 rintro x' M ⟨rfl, rfl⟩
 try simp only [lca, lna]
 rw [if_pos (show (0 ≤ k ∧ k < 16) ∧ 0 ≤ o from ⟨⟨hk1, hk2⟩, by omega⟩)]
 have hro2 : (ro.set k.toNat o).length = 16 ∧ (ro.set k.toNat o).getD k.toNat 0 = o := ⟨by rw [List.length_set]; exact hrol, by rw [List.getD_eq_getElem?_getD, List.getElem?_set_self (by omega)]; rfl⟩
 generalize ro.set k.toNat o = ro2 at *
 refine en_call (gc_tick i (RX 1 [[], []] 0 S2 hs1 ro2 ([] ++ [o]) [] 0 0) t (by show (0 : Int) < _; decide) (by omega)) tks ?_
 rintro _ _ rfl
 have l1 : Sf.later 0 t = t := by unfold Sf.later Sf.none; rw [if_neg (by decide)]; split <;> omega
 have l2 : Sf.later t (-5) = t := by unfold Sf.later Sf.none; rw [if_neg (c := (-5 : Int) > 0) (by decide)]; split <;> omega
 try simp only [lca, lna]
 change Tr _ _ (blk i.p (i.cs (RX 1 [[], []] 0 S2 hs1 ro2 [o] [] (Sf.later 0 t) 0)) :: _) _ _
 rw [l1]
 refine en_call (gc_tick i (RX 1 [[], []] 0 S2 hs1 ro2 [o] [] t 0) (-5) (by show t < _; omega) (by decide)) tks ?_
 rintro _ _ rfl
 try simp only [lca, lna]
 change Tr _ _ (blk i.p (i.cs (RX 1 [[], []] 0 S2 hs1 ro2 [o] [] (Sf.later t (-5)) 0)) :: _) _ _
 rw [l2]
 refine en_drw (en_held [blk i.p (i.cs (RX 1 [[], []] 0 S2 hs1 ro2 [o] [] t 0))] tks ?_)
 refine en_nn (en_ldS (k := .ptr) (b := i.p) (off := 0) (x := some ⟨i.r, 0, none⟩) (by rw [fa_mk]) tk rfl ?_)
 try simp only [lca, lna]
 refine en_call (gc_clock i (RX 1 [[], []] 0 S2 hs1 ro2 [o] [] t 0)) tks ?_
 rintro x' _ ⟨hx, rfl⟩
 change x' = t at hx
 rw [hx]
 clear hx x'
 try simp only [lca, lna]
 refine en_chk tks ?_
 obtain ⟨r, S3, e3, hr, b3⟩ := b2.refer (rows := [[], []]) (n := 0) (c := 2) (o := o) (q := 1) (t := t) (show 1 + 1 < 60 by decide) (by decide) (by decide) (by decide) (by decide) (by decide) ⟨_, List.mem_singleton.mpr rfl, rfl⟩
 obtain ⟨w3, _, _⟩ := w2.refer 2 o 1 t (by omega) (by decide)
 refine en_call (rfs_refer i.r i.b S2 [] b2.hw [[], []] 0 2 o 1 t (by decide) (by decide)) tks ?_
 rintro _ _ ⟨rfl, rfl⟩
 rw [e3] at w3 ⊢
 try simp only [lca, lna]
 change Wl S3 [] [[], []] 1 [o] [] at w3
 change Bx S3 [] 60 [⟨o, ⟨2, 0, 2, true⟩, [0, 0]⟩, ⟨r, ⟨4, 2, 5, false⟩, [o, 2, 0, t, 1]⟩] at b3
 have inv : (RX 1 [[], []] 1 S3 hs1 ro2 [o] [] t 0).Inv 1 := inv_of w3 (h1.le (by decide)) hro2.1 ⟨by show (0 : Int) ≤ t; omega, by show t < _; omega⟩ ⟨by show (0 : Int) ≤ 1; decide, Int.le_refl 1⟩ ⟨Int.le_refl 0, by show (0 : Int) ≤ 1; decide⟩ ⟨by show (0 : Int) ≤ 1; decide, by show (1 : Int) < _; decide⟩ rfl
 obtain ⟨p, q, hob, hpa⟩ := objs_two b3.bo
 change p.a = if r < o then r else o at hpa
 obtain ⟨U, hU⟩ : ∃ U, (RX 1 [[], []] 1 S3 hs1 ro2 [o] [] t 0).used = U := ⟨_, rfl⟩
 refine en_call (gc_view i (RX 1 [[], []] 1 S3 hs1 ro2 [o] [] t 0) (inv.ok (by decide))) tks ?_
 rintro _ _ ⟨so, sh, sr, sq, sf, sp, lv, rfl, ⟨n1, n2, n3, n4, n5, n6⟩, hl, hly, rfl⟩
 rw [hU]
 change so.n = (Ob.objs S3).length at n1
 change sh.n = (Hn.all hs1).length at n2
 rw [hob] at n1
 rw [hall] at n2
 change Tr _ _ ([ObsA so (Ob.objs S3), SLc sh 2 ((Hn.all hs1).flatMap hcs), SLc sr 1 (ro2.map i64), SLc sq 1 (lv.map slcV), star (lv.map slP), SLc sf 1 (([o] : List Int).map i64), SLc sp 1 (([] : List Int).map i64)] ++ i.A (RX 1 [[], []] 1 S3 hs1 ro2 [o] [] t 0) ++ _) _ _
 rw [hob, hall]
 try simp only [lca, lna]
 refine en_nw fun b17 => ?_
 refine en_st (b := b17) (off := 0) rfl tk (by simp) rfl ?_
 refine Tr.take (A := blk b17 [.slice so.a so.n so.c, .slice sh.a sh.n sh.c, .slice sr.a sr.n sr.c, .slice sq.a sq.n sq.c, .slice sf.a sf.n sf.c, .slice sp.a sp.n sp.c, i64 t, i64 1, i64 U, i64 0]) tk ?_
 refine en_brf (beq_eq_false_iff_ne.mpr (Int.ne_of_gt ho)) ?_
 iterate 2
  refine en_call (law_err _) .nil ?_
  rintro x' M ⟨rfl, rfl⟩
  try simp only [lca, lna]
 refine en_brf rfl ?_
 refine en_ld (k := .slice) (b := b17) (off := 0) (x := so) (by rw [fa_mk]) tk rfl ?_
 refine en_brf (by rw [n1]; rfl) ?_
 refine en_ld (k := .slice) (b := b17) (off := 1) (x := sh) (by rw [fa_mk]) tk rfl ?_
 refine en_brf (by rw [n2]; rfl) ?_
 refine en_ld (k := .slice) (b := b17) (off := 3) (x := sq) (by rw [fa_mk]) tk rfl ?_
 refine en_brf (by rw [n4]; rfl) ?_
 refine en_ld (k := .slice) (b := b17) (off := 2) (x := sr) (by rw [fa_mk]) tk rfl ?_
 refine en_brf (by rw [n3]; rfl) ?_
 refine en_ld (k := .slice) (b := b17) (off := 4) (x := sf) (by rw [fa_mk]) tk rfl ?_
 refine en_brf (by rw [n5]; rfl) ?_
 refine en_jnI ?_
 refine FinA.op (p := i.f) (hp := i.b) (wa := [o]) (pe := []) tk fun zf zp hzf hzp => ?_
 refine HeapA.op (p := i.b) (S := S3) (cs := []) tk fun ps pt => ?_
 refine en_drw (en_held [blk b17 [.slice so.a so.n so.c, .slice sh.a sh.n sh.c, .slice sr.a sr.n sr.c, .slice sq.a sq.n sq.c, .slice sf.a sf.n sf.c, .slice sp.a sp.n sp.c, i64 t, i64 1, i64 U, i64 0], SLc sh 2 (([(512, o)] : List (Int × Int)).flatMap hcs), SLc sr 1 (ro2.map i64), SLc sf 1 (([o] : List Int).map i64), blk i.p (i.cs (RX 1 [[], []] 1 S3 hs1 ro2 [o] [] t 0)), blk i.f [.pointer (some ⟨i.b, 0, none⟩), .slice zf.a zf.n zf.c, .slice zp.a zp.n zp.c], blk i.b [.pointer (some ⟨ps, 0, none⟩), .pointer (some ⟨pt, 0, none⟩)]] tks ?_)
 refine en_ldS (k := .slice) (b := b17) (off := 1) (x := sh) (by rw [fa_mk]) tk rfl ?_
 refine en_ixSL (s := sh) (m := 2) (xs := ([(512, o)] : List (Int × Int)).flatMap hcs) tk (by decide) (by rw [n2]; show (0 : Int) < 1; decide) fun a0 ha0 => ?_
 refine en_ldSL2 (s := sh) (m := 2) (xs := ([(512, o)] : List (Int × Int)).flatMap hcs) (k := .int .i64) (j := 0) (x := (512 : Int)) ha0 tk (by rintro b' o' rfl; rw [fa_mk, fa_mk]; rfl) rfl ?_
 refine en_ldSL2 (s := sh) (m := 2) (xs := ([(512, o)] : List (Int × Int)).flatMap hcs) (k := .int .i64) (j := 1) (x := o) ha0 tk (by rintro b' o' rfl; rw [fa_mk, fa_mk]; rfl) rfl ?_
 simp only [ldGS]
 refine en_brt (by simp) ?_
 refine en_ldS (k := .slice) (b := b17) (off := 2) (x := sr) (by rw [fa_mk]) tk rfl ?_
 refine en_getSLS' (s := sr) (xs := ro2) tk tk hk1 (by omega) ?_
 rw [hro2.2]
 refine en_brt (by simp) ?_
 refine en_ldS (k := .slice) (b := b17) (off := 4) (x := sf) (by rw [fa_mk]) tk rfl ?_
 refine en_getSLS' (s := sf) (xs := [o]) tk tk (by decide) (show (0 : Int) < 1 by decide) ?_
 refine en_brt (by simp) ?_
 refine en_ldS (k := .int .i64) (b := b17) (off := 6) (x := t) (by rw [fa_mk]) tk rfl ?_
 refine en_brt (by simp) ?_
 refine en_ldS (k := .int .i64) (b := b17) (off := 7) (x := (1 : Int)) (by rw [fa_mk]) tk rfl ?_
 refine en_brt rfl ?_
 refine en_ldS (k := .int .i64) (b := b17) (off := 8) (x := U) (by rw [fa_mk]) tk rfl ?_
 refine en_nn (en_ldS (k := .ptr) (b := i.p) (off := 3) (x := some ⟨i.f, 0, none⟩) (by rw [fa_mk]) tk rfl ?_)
 refine en_nn (en_ldS (k := .ptr) (b := i.f) (off := 0) (x := some ⟨i.b, 0, none⟩) (by rw [fa_mk]) tk rfl ?_)
 refine en_nn (en_ldS (k := .ptr) (b := i.b) (off := 0) (x := some ⟨ps, 0, none⟩) (by rw [fa_mk]) tk rfl ?_)
 refine en_call (space_used ps S3 b3.hw.wf) tks ?_
 rintro u' _ ⟨hu, rfl⟩
 have hu : u' = U := hu.trans hU
 rw [hu]
 try simp only [lca, lna]
 refine en_chk tks ?_
 refine en_cut [blk b17 [.slice so.a so.n so.c, .slice sh.a sh.n sh.c, .slice sr.a sr.n sr.c, .slice sq.a sq.n sq.c, .slice sf.a sf.n sf.c, .slice sp.a sp.n sp.c, i64 t, i64 1, i64 U, i64 0], SLc sh 2 (([(512, o)] : List (Int × Int)).flatMap hcs), SLc sr 1 (ro2.map i64), SLc sf 1 (([o] : List Int).map i64), blk i.p (i.cs (RX 1 [[], []] 1 S3 hs1 ro2 [o] [] t 0)), blk i.f [.pointer (some ⟨i.b, 0, none⟩), .slice zf.a zf.n zf.c, .slice zp.a zp.n zp.c], blk i.b [.pointer (some ⟨ps, 0, none⟩), .pointer (some ⟨pt, 0, none⟩)]] tks (fun _ h => h) ?_
 refine en_brt (by simp) ?_
 refine en_ldS (k := .int .i64) (b := b17) (off := 9) (x := (0 : Int)) (by rw [fa_mk]) tk rfl ?_
 refine Tr.close tks (HeapA.cl (p := i.b) (ps := ps) (pt := pt) (S := S3) (cs := [])) ?_
 refine Tr.close tks (FinA.cl (p := i.f) (hp := i.b) (wa := [o]) (pe := []) hzf hzp) ?_
 refine en_ld (k := .slice) (b := b17) (off := 2) (x := sr) (by rw [fa_mk]) tk rfl ?_
 refine en_setSL (s := sr) (xs := ro2) tk hk1 (by omega) ?_
 refine en_ld (k := .slice) (b := b17) (off := 4) (x := sf) (by rw [fa_mk]) tk rfl ?_
 refine en_setSL (s := sf) (xs := [o]) tk (by decide) (show (0 : Int) < 1 by decide) ?_
 refine en_ld (k := .slice) (b := b17) (off := 0) (x := so) (by rw [fa_mk]) tk rfl ?_
 refine ObsA.op2 (s := so) (os := [p, q]) tk fun l8 hl1 hl2 => ?_
 refine en_ixSL (s := so) (m := 6) tk (by decide) (by rw [hl1]; show (0 : Int) < 2; decide) fun a0 ha0 => ?_
 have hl8 : l8.length = 2 := by rw [← List.length_map (f := (·.1)), hl2]; rfl
 have hflat : ∀ {l : List (Ob1 × Slc)}, l.length = 2 → 0 < (l.flatMap obCs).length := fun {l} h => by
  match l, h with
  | [y, z], _ => show 0 < 12; decide
 refine en_stSL (s := so) (m := 6) (j := 0) ha0 tk (by rintro b' o' rfl; rw [fa_mk, fa_mk]; rfl) (by have := hflat hl8; show 0 + 1 ≤ _; omega) rfl ?_
 refine en_call (gc_view i (RX 1 [[], []] 1 S3 hs1 ro2 [o] [] t 0) (inv.ok (by decide))) tks ?_
 rintro _ _ ⟨so', sh', sr', sq', sf', sp', lv', rfl, ⟨n1', n2', n3', n4', n5', n6'⟩, hl', hly', rfl⟩
 rw [hU]
 change so'.n = (Ob.objs S3).length at n1'
 rw [hob] at n1'
 change Tr _ _ ([ObsA so' (Ob.objs S3), SLc sh' 2 ((Hn.all hs1).flatMap hcs), SLc sr' 1 (ro2.map i64), SLc sq' 1 (lv'.map slcV), star (lv'.map slP), SLc sf' 1 (([o] : List Int).map i64), SLc sp' 1 (([] : List Int).map i64)] ++ i.A (RX 1 [[], []] 1 S3 hs1 ro2 [o] [] t 0) ++ _) _ _
 rw [hob]
 try simp only [lca, lna]
 refine en_nw fun b34 => ?_
 refine en_st (b := b34) (off := 0) rfl tk (by simp) rfl ?_
 refine en_brt rfl ?_
 refine en_ld (k := .slice) (b := b34) (off := 2) (x := sr') (by rw [fa_mk]) tk rfl ?_
 refine en_getSL (s := sr') (xs := ro2) tk hk1 (by omega) ?_
 rw [hro2.2]
 refine en_brt (by simp) ?_
 refine en_ld (k := .slice) (b := b34) (off := 4) (x := sf') (by rw [fa_mk]) tk rfl ?_
 refine en_brt (by rw [n5']; rfl) ?_
 refine en_ld (k := .slice) (b := b34) (off := 4) (x := sf') (by rw [fa_mk]) tk rfl ?_
 refine en_getSL (s := sf') (xs := [o]) tk (by decide) (show (0 : Int) < 1 by decide) ?_
 refine en_brt (by simp) ?_
 refine en_ld (k := .slice) (b := b34) (off := 0) (x := so') (by rw [fa_mk]) tk rfl ?_
 refine en_brt (by rw [n1']; rfl) ?_
 refine en_ld (k := .slice) (b := b34) (off := 0) (x := so') (by rw [fa_mk]) tk rfl ?_
 refine ObsA.op2 (s := so') (os := [p, q]) tk fun l9 hl3 hl4 => ?_
 refine en_ixSL (s := so') (m := 6) tk (by decide) (by rw [hl3]; show (0 : Int) < 2; decide) fun a1 ha1 => ?_
 have hfst : (l9.flatMap obCs)[0]? = some (i64 p.a) := by
  match l9, hl4 with
  | y :: z, hl4 =>
   have : y.1 = p := by simpa using congrArg List.head? hl4
   rw [← this]; rfl
 refine en_ldSL (k := .int .i64) (s := so') (m := 6) (j := 0) (x := p.a) ha1 tk (by rintro b' o' rfl; rw [fa_mk, fa_mk]; rfl) hfst ?_
 refine en_brt (by rw [hpa]; simp) ?_
 refine en_call (law_awake20) tks ?_
 rintro x' M ⟨rfl, rfl⟩
 try simp only [lca, lna]
 exact en_rets (x := true) rfl ⟨rfl, rfl⟩ tks ens
end Go.Proofs.YtdplphebjhfliaaGreat
