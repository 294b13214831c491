/- The law GcRaises. -/
import Derived.Test.YtdplphebjhfliaaGreatGsAft
import Derived.Test.YtdplphebjhfliaaGreatGsTxGcRaises
set_option linter.unusedSimpArgs false
set_option linter.unusedVariables false
namespace Go.Proofs.YtdplphebjhfliaaGreat
open Go Go.Gl
variable {ρ0 ρ : FR} {L L' : List Asn} {Post : Value → List Asn → Prop} {T : Tree}
namespace Raise
structure St (S : Spc) (at0 w q n x w0 w1 q0 q1 : Int) : Prop where
 hw : HWf S []
 obj : ∀ a, Mk.obj S a ↔ (a = at0 ∨ a = w ∨ a = q)
 hat : Ob.head S at0 = some ⟨3, 0, n, true⟩
 hhw : Ob.head S w = some ⟨4, 2, 5, false⟩
 hhq : Ob.head S q = some ⟨4, 3, 5, false⟩
 gat : Ob.get S at0 0 = (x, 0)
 gw0 : Ob.get S w 0 = (w0, 0)
 gw1 : Ob.get S w 1 = (w1, 0)
 gw2 : Ob.get S w 2 = (0, 0)
 gq0 : Ob.get S q 0 = (q0, 0)
 gq1 : Ob.get S q 1 = (q1, 0)
 gq2 : Ob.get S q 2 = (0, 0)
variable {S : Spc} {at0 w q n x w0 w1 q0 q1 : Int}
theorem St.flat (H : St S at0 w q n x w0 w1 q0 q1) (a : Int) (ha : Mk.obj S a) (b : Int) (hb : b ∈ Mk.kids S [] a) : ¬ Mk.obj S b := fun ho => by
 obtain ⟨f, hf, h0, h1⟩ := Mk.mem_kids.mp hb
 have hz := Mk.obj_zero H.hw
 unfold Ob.refs at hf
 rcases (H.obj a).mp ha with rfl | rfl | rfl
 ·rw [H.hat] at hf
  simp at hf
 ·rw [H.hhw] at hf
  have : f = 2 := by simpa using hf
  subst this
  rw [H.gw2] at h1
  have h1 : (0 : Int) = b := h1
  exact hz (by rw [h1]; exact ho)
 ·rw [H.hhq] at hf
  have : f = 2 := by simpa using hf
  subst this
  rw [H.gq2] at h1
  have h1 : (0 : Int) = b := h1
  exact hz (by rw [h1]; exact ho)
theorem St.m2 (H : St S at0 w q n x w0 w1 q0 q1) {y : In7} {ros fs : List Int} {l : List Rf6} {m2 m3 : List Bool} (hC : Coll S [] y ros fs l m2 m3) (a : Int) : Sp.has m2 a = true ↔ (a ∈ ros ∧ Mk.obj S a) := by
 rw [coll_hard hC (fun r hr h1 => ?_) a, rch_flat2 H.flat]
 obtain ⟨h, hh, hk, e⟩ := (mem_refsOf H.hw).mp hr
 have ho : Mk.obj S r.1 := by unfold Mk.obj; rw [hh]; rfl
 have hc : r.2.1 = h.c := by rw [e]; rfl
 rcases (H.obj r.1).mp ho with g | g | g
 ·rw [g, H.hat] at hh; injection hh with hh; rw [← hh] at hk; cases hk
 ·rw [g, H.hhw] at hh; injection hh with hh; rw [hc, ← hh] at h1; cases h1
 ·rw [g, H.hhq] at hh; injection hh with hh; rw [hc, ← hh] at h1; cases h1
instance objDec (S : Spc) (a : Int) : Decidable (Mk.obj S a) := inferInstanceAs (Decidable ((Ob.head S a).isSome = true))
theorem St.clr (H : St S at0 w q n x w0 w1 q0 q1) (hne : at0 ≠ w ∧ at0 ≠ q ∧ w ≠ q) {l : List Rf6} (hp : l.Perm (refsOf S)) (m : List Bool) :
  clearOf S m [1, 2] l = (if Mk.obj S w0 ∧ ¬ Sp.has m w0 = true then [w] else []) ∧ clearOf S m [3] l = (if Mk.obj S q0 ∧ ¬ Sp.has m q0 = true then [q] else []) := by
 have key : ∀ (xs : List Int) (a : Int), a ∈ clearOf S m xs l ↔ ((a = w ∧ 2 ∈ xs ∧ Mk.obj S w0 ∧ ¬ Sp.has m w0 = true) ∨ (a = q ∧ 3 ∈ xs ∧ Mk.obj S q0 ∧ ¬ Sp.has m q0 = true)) := fun xs a => by
  rw [mem_clr H.hw hp]
  constructor
  ·rintro ⟨h, hh, hk, h1, h2, h3⟩
   have ho : Mk.obj S a := by unfold Mk.obj; rw [hh]; rfl
   rcases (H.obj a).mp ho with g | g | g
   ·rw [g, H.hat] at hh; injection hh with hh; rw [← hh] at hk; cases hk
   ·rw [g, H.hhw] at hh; injection hh with hh; rw [← hh] at h1; rw [g, H.gw0] at h2 h3; exact .inl ⟨g, h1, h2, h3⟩
   ·rw [g, H.hhq] at hh; injection hh with hh; rw [← hh] at h1; rw [g, H.gq0] at h2 h3; exact .inr ⟨g, h1, h2, h3⟩
  ·rintro (⟨rfl, h1, h2, h3⟩ | ⟨rfl, h1, h2, h3⟩)
   ·exact ⟨_, H.hhw, rfl, h1, by rw [H.gw0]; exact h2, by rw [H.gw0]; exact h3⟩
   ·exact ⟨_, H.hhq, rfl, h1, by rw [H.gq0]; exact h2, by rw [H.gq0]; exact h3⟩
 constructor
 ·by_cases hc : Mk.obj S w0 ∧ ¬ Sp.has m w0 = true
  ·rw [if_pos hc]
   refine nodup_one (clear_nodup H.hw hp) fun b => ?_
   rw [key]
   simp [hc]
  ·rw [if_neg hc]
   refine no_mem fun b => ?_
   rw [key]
   rintro (⟨_, _, h⟩ | ⟨_, h, _⟩)
   ·exact hc h
   ·simp at h
 ·by_cases hc : Mk.obj S q0 ∧ ¬ Sp.has m q0 = true
  ·rw [if_pos hc]
   refine nodup_one (clear_nodup H.hw hp) fun b => ?_
   rw [key]
   simp [hc]
  ·rw [if_neg hc]
   refine no_mem fun b => ?_
   rw [key]
   rintro (⟨_, h, _⟩ | ⟨_, _, h⟩)
   ·simp at h
   ·exact hc h
theorem one_row {rows : List (List Int)} {r : List Int} (h1 : rows.length = 1) (h2 : rows.getD 0 [] = r) : rows = [r] := by
 match rows, h1 with
 | [y], _ => have : y = r := h2; rw [this]
end Raise
theorem law_gcraises (n x : Int) (hn : 0 ≤ n ∧ n < 256) : Gl.Spec ρ Tryz.prog 6 [.int .u8 n, i64 x] [] RB fun r M => r = true ∧ M = [] := by
 refine Gl.Spec.of (fun Q w h => F.gloaminglaw20.GcRaises.calls n x h) fun R => ?_
 unfold F.gloaminglaw20.GcRaises
 try simp only [lca, lna]
 refine en_call (made60 0 1 (by decide) (by decide)) tks ?_
 rintro _ _ ⟨i, S0, hs, ro, rfl, rfl, b0, w0, h0, r0, hro⟩
 try simp only [lca, lna]
 change Wl S0 [] [[]] 0 [] [] at w0
 refine en_brf rfl ?_
 refine en_nn ?_
 refine en_ld (k := .ptr) (b := i.p) (off := 3) (x := some ⟨i.f, 0, none⟩) (by rw [fa_mk]) tk rfl ?_
 refine en_nn (fin_heap (f := i.f) (hp := i.b) (by rw [fa_mk]) tk ?_)
 refine en_need (by decide) ?_
 rw [wrap64 (n := n) (by omega) (by omega), Int.tmod_eq_emod_of_nonneg hn.1, wrap64 (n := 1 + n % 40) (by omega) (by omega), zcOut, zcView]
 obtain ⟨L, hLe, hL1, hL2⟩ : ∃ L : Int, 1 + n % 40 = L ∧ 1 ≤ L ∧ L ≤ 40 := ⟨_, rfl, by omega, by omega⟩
 rw [hLe]
 clear hLe
 obtain ⟨e1, b1⟩ := b0.make (by decide) (may_data [] (n := L) (by omega) (by omega)) (need1 (by dsimp only; omega) (by dsimp only; omega))
 have w1 := w0.make (h := ⟨3, 0, L, false⟩) (by show (3 : Int) ≠ 4; decide)
 have hat : 0 < (Ob.make S0 [] ⟨3, 0, L, false⟩).1 := b1.bo.pos (List.mem_append_right _ (List.mem_singleton.mpr rfl))
 refine en_call (object_make i.b S0 [] b0.hw ⟨3, 0, L, false⟩) tks ?_
 rintro _ _ ⟨rfl, rfl⟩
 rw [e1]
 try simp only [lca, lna]
 generalize (Ob.make S0 [] ⟨3, 0, L, false⟩).1 = at0 at *
 generalize (Ob.make S0 [] ⟨3, 0, L, false⟩).2.2 = S1 at *
 clear e1 b0 w0
 change Bx S1 [] 60 [⟨at0, ⟨3, 0, L, false⟩, List.replicate L.toNat 0⟩] at b1
 refine en_nn ?_
 refine en_ld (k := .ptr) (b := i.p) (off := 3) (x := some ⟨i.f, 0, none⟩) (by rw [fa_mk]) tk rfl ?_
 refine en_nn (fin_heap (f := i.f) (hp := i.b) (by rw [fa_mk]) tk ?_)
 obtain ⟨e2, b2⟩ := b1.put (i := 0) rfl (k := 0) (by show ((0 : Nat) : Int) < L; omega) x
 have w2 := w1.put (a := at0) (i := 0) (x := x) (.inl (by
  cases e : Qu.isR S1 at0 with
  | false => rfl
  | true =>
   obtain ⟨o, ho, _, hk⟩ := b1.bo.isR.mp e
   rw [List.mem_singleton] at ho
   subst ho; cases hk))
 change (Ob.put S1 at0 0 x).1 = 0 at e2
 change Bx (Ob.put S1 at0 0 x).2 [] 60 [⟨at0, ⟨3, 0, L, false⟩, (List.replicate L.toNat 0).set 0 x⟩] at b2
 refine en_call (object_put i.b S1 [] b1.hw at0 0 x) tks ?_
 rintro x' M ⟨rfl, rfl⟩
 try simp only [lca, lna]
 rw [e2]
 generalize (Ob.put S1 at0 0 x).2 = S2 at *
 clear e2 b1 w1
 have hx0 : ((List.replicate L.toNat (0 : Int)).set 0 x).getD 0 0 = x := by
  rw [List.getD_eq_getElem?_getD, List.getElem?_set_self (by simp; omega)]; rfl
 generalize (List.replicate L.toNat (0 : Int)).set 0 x = ws at *
 refine en_nn ?_
 refine en_ld (k := .ptr) (b := i.p) (off := 0) (x := some ⟨i.r, 0, none⟩) (by rw [fa_mk]) tk rfl ?_
 obtain ⟨w, S3, e3, hwp, b3⟩ := b2.refer (rows := [[]]) (n := 0) (c := 2) (o := at0) (q := 0) (t := 0) (show 1 + 1 < 60 by decide) (by decide) (by decide) (by decide) (by decide) (by decide) ⟨_, List.mem_singleton.mpr rfl, rfl⟩
 obtain ⟨w3, _, _⟩ := w2.refer 2 at0 0 0 (by decide) (by decide)
 refine en_call (rfs_refer i.r i.b S2 [] b2.hw [[]] 0 2 at0 0 0 (by decide) (by decide)) tks ?_
 rintro _ _ ⟨rfl, rfl⟩
 rw [e3] at w3 ⊢
 try simp only [lca, lna]
 change Wl S3 [] [[]] 1 [] [] at w3
 refine en_nn ?_
 refine en_ld (k := .ptr) (b := i.p) (off := 0) (x := some ⟨i.r, 0, none⟩) (by rw [fa_mk]) tk rfl ?_
 obtain ⟨q, S4, e4, hqp, b4⟩ := b3.refer (rows := [[]]) (n := 1) (c := 3) (o := at0) (q := 0) (t := 0) (show 2 + 1 < 60 by decide) (by decide) (by decide) (by decide) (by decide) (by decide) ⟨_, List.mem_append_left _ (List.mem_singleton.mpr rfl), rfl⟩
 obtain ⟨w4, _, _⟩ := w3.refer 3 at0 0 0 (by decide) (by decide)
 refine en_call (rfs_refer i.r i.b S3 [] b3.hw [[]] 1 3 at0 0 0 (by decide) (by decide)) tks ?_
 rintro _ _ ⟨rfl, rfl⟩
 rw [e4] at w4 ⊢
 try simp only [lca, lna]
 change Wl S4 [] [[]] 2 [] [] at w4
 change Bx S4 [] 60 [⟨at0, ⟨3, 0, L, false⟩, ws⟩, ⟨w, ⟨4, 2, 5, false⟩, [at0, 1, 0, 0, 1]⟩, ⟨q, ⟨4, 3, 5, false⟩, [at0, 1, 0, 0, 2]⟩] at b4
 clear e3 e4 b2 b3 w2 w3
 have hne : at0 ≠ w ∧ at0 ≠ q ∧ w ≠ q := ⟨fun e => (by cases b4.inj (i := 0) (j := 1) rfl rfl e), fun e => (by cases b4.inj (i := 0) (j := 2) rfl rfl e), fun e => (by cases b4.inj (i := 1) (j := 2) rfl rfl e)⟩
 refine en_nn ?_
 refine en_ld (k := .ptr) (b := i.p) (off := 3) (x := some ⟨i.f, 0, none⟩) (by rw [fa_mk]) tk rfl ?_
 obtain ⟨e5, b5⟩ := b4.bo.final (o := ⟨at0, ⟨3, 0, L, false⟩, ws⟩) (by simp) (by show (3 : Int) ≠ 4; decide) rfl
 have w5 := w4.await at0
 change (Ob.final S4 at0).1 = 0 at e5
 have b5 : Bo (Ob.final S4 at0).2 [] [⟨at0, ⟨3, 0, L, true⟩, ws⟩, ⟨w, ⟨4, 2, 5, false⟩, [at0, 1, 0, 0, 1]⟩, ⟨q, ⟨4, 3, 5, false⟩, [at0, 1, 0, 0, 2]⟩] := by
  have : ([⟨at0, ⟨3, 0, L, false⟩, ws⟩, ⟨w, ⟨4, 2, 5, false⟩, [at0, 1, 0, 0, 1]⟩, ⟨q, ⟨4, 3, 5, false⟩, [at0, 1, 0, 0, 2]⟩] : List Ob1).map (Om.fi at0) = [⟨at0, ⟨3, 0, L, true⟩, ws⟩, ⟨w, ⟨4, 2, 5, false⟩, [at0, 1, 0, 0, 1]⟩, ⟨q, ⟨4, 3, 5, false⟩, [at0, 1, 0, 0, 2]⟩] := by
   simp [Om.fi, hne.1.symm, hne.2.1.symm]
  rw [← this]; exact b5
 refine en_call (fin_await i.f i.b S4 [] b4.hw [] [] (by decide) at0) tks ?_
 rintro x' M ⟨rfl, rfl⟩
 try simp only [lca, lna]
 rw [e5, if_pos rfl]
 rw [if_pos e5] at w5
 generalize (Ob.final S4 at0).2 = S5 at *
 clear b4 w4 e5
 have s5 : Raise.St S5 at0 w q L x at0 1 at0 1 := by
  have g := b5.get
  refine ⟨b5.hw, fun a => ?_, b5.head ⟨at0, ⟨3, 0, L, true⟩, ws⟩ (by simp), b5.head ⟨w, ⟨4, 2, 5, false⟩, [at0, 1, 0, 0, 1]⟩ (by simp), b5.head ⟨q, ⟨4, 3, 5, false⟩, [at0, 1, 0, 0, 2]⟩ (by simp), ?_, ?_, ?_, ?_, ?_, ?_, ?_⟩
  ·rw [b5.obj]
   constructor
   ·rintro ⟨o, ho, rfl⟩
    simp only [List.mem_cons, List.not_mem_nil, or_false] at ho
    rcases ho with rfl | rfl | rfl
    ·exact .inl rfl
    ·exact .inr (.inl rfl)
    ·exact .inr (.inr rfl)
   ·rintro (rfl | rfl | rfl)
    ·exact ⟨_, .head _, rfl⟩
    ·exact ⟨_, .tail _ (.head _), rfl⟩
    ·exact ⟨_, .tail _ (.tail _ (.head _)), rfl⟩
  ·have := g ⟨at0, ⟨3, 0, L, true⟩, ws⟩ (by simp) 0 (by show ((0 : Nat) : Int) < L; omega)
   rw [hx0] at this; exact this
  ·exact g ⟨w, ⟨4, 2, 5, false⟩, [at0, 1, 0, 0, 1]⟩ (by simp) 0 (show ((0 : Nat) : Int) < 5 by decide)
  ·exact g ⟨w, ⟨4, 2, 5, false⟩, [at0, 1, 0, 0, 1]⟩ (by simp) 1 (show ((1 : Nat) : Int) < 5 by decide)
  ·exact g ⟨w, ⟨4, 2, 5, false⟩, [at0, 1, 0, 0, 1]⟩ (by simp) 2 (show ((2 : Nat) : Int) < 5 by decide)
  ·exact g ⟨q, ⟨4, 3, 5, false⟩, [at0, 1, 0, 0, 2]⟩ (by simp) 0 (show ((0 : Nat) : Int) < 5 by decide)
  ·exact g ⟨q, ⟨4, 3, 5, false⟩, [at0, 1, 0, 0, 2]⟩ (by simp) 1 (show ((1 : Nat) : Int) < 5 by decide)
  ·exact g ⟨q, ⟨4, 3, 5, false⟩, [at0, 1, 0, 0, 2]⟩ (by simp) 2 (show ((2 : Nat) : Int) < 5 by decide)
 clear b5 hx0
 have hrol : ro.length = 16 := by rw [hro]; rfl
 refine en_nn ?_
 refine en_ld (k := .ptr) (b := i.p) (off := 2) (x := some ⟨i.o, 0, none⟩) (by rw [fa_mk]) tk rfl ?_
 refine en_call (root_place i.o ro hrol 0 w) tks ?_
 rintro x' M ⟨rfl, rfl⟩
 try simp only [lca, lna]
 rw [if_pos (show ((0 : Int) ≤ 0 ∧ (0 : Int) < 16) ∧ 0 ≤ w from ⟨by decide, by omega⟩)]
 refine en_nn ?_
 refine en_ld (k := .ptr) (b := i.p) (off := 2) (x := some ⟨i.o, 0, none⟩) (by rw [fa_mk]) tk rfl ?_
 refine en_call (root_place i.o (ro.set (0 : Int).toNat w) (by rw [List.length_set]; exact hrol) 1 q) tks ?_
 rintro x' M ⟨rfl, rfl⟩
 try simp only [lca, lna]
 rw [if_pos (show ((0 : Int) ≤ 1 ∧ (1 : Int) < 16) ∧ 0 ≤ q from ⟨by decide, by omega⟩)]
 have hro2 : ∀ v : Int, (((ro.set (0 : Int).toNat w).set (1 : Int).toNat q).set (2 : Int).toNat v).length = 16 ∧ ∀ a, 0 < a → (a ∈ ((ro.set (0 : Int).toNat w).set (1 : Int).toNat q).set (2 : Int).toNat v ↔ (a = w ∨ a = q ∨ a = v)) := fun v => by
  subst hro
  refine ⟨rfl, fun a ha => ?_⟩
  show a ∈ [w, q, v, 0, 0, 0, 0, 0, 0, 0, 0, 0, 0, 0, 0, 0] ↔ _
  simp only [List.mem_cons, List.not_mem_nil, or_false]
  constructor
  ·rintro (h | h | h | h)
   ·exact .inl h
   ·exact .inr (.inl h)
   ·exact .inr (.inr h)
   ·omega
  ·rintro (h | h | h)
   ·exact .inl h
   ·exact .inr (.inl h)
   ·exact .inr (.inr (.inl h))
 have hro1 : ((ro.set (0 : Int).toNat w).set (1 : Int).toNat q).length = 16 ∧ ∀ a, 0 < a → (a ∈ (ro.set (0 : Int).toNat w).set (1 : Int).toNat q ↔ (a = w ∨ a = q)) := by
  subst hro
  refine ⟨rfl, fun a ha => ?_⟩
  show a ∈ [w, q, 0, 0, 0, 0, 0, 0, 0, 0, 0, 0, 0, 0, 0, 0] ↔ _
  simp only [List.mem_cons, List.not_mem_nil, or_false]
  constructor
  ·rintro (h | h | h)
   ·exact .inl h
   ·exact .inr h
   ·omega
  ·rintro (h | h)
   ·exact .inl h
   ·exact .inr (.inl h)
 generalize (ro.set (0 : Int).toNat w).set (1 : Int).toNat q = ro1 at *
 have hroots : ∀ {S : Spc} {rows : List (List Int)} {ro wa pe : List Int} {ser rn : Int} {a : Int}, 0 < a → (a ∈ (RX 0 rows ser S hs ro wa pe 0 rn).roots ↔ (a ∈ ro ∨ (∃ r ∈ rows, a ∈ r.take 1) ∨ a ∈ pe)) := fun {S rows ro wa pe ser rn a} ha => by
  rw [mem_roots h0.len ha]
  constructor
  ·rintro (⟨t, _, g⟩ | g)
   ·rw [r0] at g
    dsimp only at g; omega
   ·exact g
  ·exact .inr
 have opos : ∀ {S : Spc} {y0 y1 y2 y3 : Int} {a : Int}, Raise.St S at0 w q L x y0 y1 y2 y3 → Mk.obj S a → 0 < a := fun H ho => by
  rcases (H.obj _).mp ho with rfl | rfl | rfl
  ·exact hat
  ·exact hwp
  ·exact hqp
 have inv : (RX 0 [[]] 2 S5 hs ro1 [at0] [] 0 0).Inv 2 := inv_of w5 (h0.le (by decide)) hro1.1 ⟨Int.le_refl 0, by show (0 : Int) < _; decide⟩ ⟨by show (0 : Int) ≤ 2; decide, Int.le_refl 2⟩ ⟨Int.le_refl 0, by show (0 : Int) ≤ 2; decide⟩ ⟨Int.le_refl 0, by show (0 : Int) < _; decide⟩ rfl
 refine en_call (gc_collect i (RX 0 [[]] 2 S5 hs ro1 [at0] [] 0 0) (inv.ok2 (by decide)) false) tks ?_
 rintro _ _ ⟨y1, y2, s1, s2, s3, s4, l, m2, m3, hC, rfl, rfl⟩
 have inv1 := inv.after hC
 have c2 : ∀ a, Sp.has m2 a = true ↔ (a = w ∨ a = q) := fun a => by
  rw [s5.m2 hC]
  constructor
  ·rintro ⟨g, ho⟩
   have ha := opos s5 ho
   rcases (hroots ha).mp g with g | ⟨r, hr, g⟩ | g
   ·exact (hro1.2 a ha).mp g
   ·rw [List.mem_singleton] at hr; subst hr; cases g
   ·cases g
  ·intro g
   have ho : Mk.obj S5 a := (s5.obj a).mpr (.inr g)
   exact ⟨(hroots (opos s5 ho)).mpr (.inl ((hro1.2 a (opos s5 ho)).mpr g)), ho⟩
 have nat2 : ¬ Sp.has m2 at0 = true := fun g => by
  rcases (c2 at0).mp g with g | g
  ·exact hne.1 g
  ·exact hne.2.1 g
 have hoat : Mk.obj S5 at0 := (s5.obj at0).mpr (.inl rfl)
 have cp : pendOf S5 m2 [at0] = [at0] := by
  show pend1 S5 m2 [] at0 = _
  unfold pend1
  rw [if_pos ⟨lost_iff.mpr ⟨hoat, nat2⟩, by simp⟩]; rfl
 have c3 : ∀ a, Sp.has m3 a = true ↔ (a = at0 ∨ a = w ∨ a = q) := fun a => by
  rw [hC.has3, c2]
  change _ ∨ Mk.Rch S5 [] (pendOf S5 m2 [at0]) a ↔ _
  rw [cp, rch_flat2 s5.flat, List.mem_singleton]
  constructor
  ·rintro (g | g)
   ·exact .inr g
   ·exact .inl g.1
  ·rintro (rfl | g)
   ·exact .inr ⟨rfl, hoat⟩
   ·exact .inl g
 obtain ⟨d1, _⟩ := s5.clr hne hC.perm m2
 obtain ⟨_, d2⟩ := s5.clr hne hC.perm m3
 have ccl : clrOf S5 m2 m3 l = [w] := by
  unfold clrOf
  rw [d1, d2, if_pos ⟨hoat, nat2⟩, if_neg (fun g => g.2 ((c3 at0).mpr (.inl rfl)))]; rfl
 have cpu : putOf S5 m3 [w] = [w] := by
  unfold putOf
  rw [List.filter_cons_of_pos (by rw [(c3 w).mpr (.inr (.inl rfl)), s5.gw1]; rfl)]; rfl
 have A1 := aft s5.hw w5.q hC (fun _ => 0) ccl cpu (fun a ha => by rw [List.mem_singleton] at ha; subst ha; rw [s5.gw1]; exact ⟨rfl, by decide⟩) (by simp)
 change (Rt.mk (Sw.sweep (Rf.enqs (Rf.clear S5 (clrOf S5 m2 m3 l)).2 [[]] (putOf S5 m3 (clrOf S5 m2 m3 l))).1 (Mk.all m3)) [] (Rf.enqs (Rf.clear S5 (clrOf S5 m2 m3 l)).2 [[]] (putOf S5 m3 (clrOf S5 m2 m3 l))).2 2 hs ro1 (Fn.pend [at0] [] (pendOf S5 m2 [at0])).1 (Fn.pend [at0] [] (pendOf S5 m2 [at0])).2 60 0 2 0 1).Inv _ at inv1
 have pp : Fn.pend [at0] [] [at0] = ([], [at0]) := by simp [Fn.pend, Fn.pend1]
 rw [ccl, cpu, cp, pp] at inv1
 have eX : Rt.after (RX 0 [[]] 2 S5 hs ro1 [at0] [] 0 0) (clrOf S5 m2 m3 l) (putOf S5 m3 (clrOf S5 m2 m3 l)) (pendOf S5 m2 [at0]) (Mk.all m3) = RX 0 (Rf.enqs (Rf.clear S5 [w]).2 [[]] [w]).2 2 (Sw.sweep (Rf.enqs (Rf.clear S5 [w]).2 [[]] [w]).1 (Mk.all m3)) hs ro1 [] [at0] 0 1 := by
  rw [ccl, cpu, cp]
  show Rt.mk _ [] _ 2 hs ro1 (Fn.pend [at0] [] [at0]).1 (Fn.pend [at0] [] [at0]).2 60 0 2 0 1 = _
  rw [pp]
 rw [eX]
 clear eX
 try simp only [lca, lna]
 have erow : (Rf.enqs (Rf.clear S5 [w]).2 [[]] [w]).2 = [[w]] := Raise.one_row A1.len (by rw [A1.row 0 (by decide)]; rfl)
 rw [erow] at A1 inv1 ⊢
 generalize Sw.sweep (Rf.enqs (Rf.clear S5 [w]).2 [[]] [w]).1 (Mk.all m3) = S6 at *
 have s6 : Raise.St S6 at0 w q L x 0 (-1) at0 1 := by
  have ha := (c3 at0).mpr (.inl rfl)
  have hb := (c3 w).mpr (.inr (.inl rfl))
  have hc := (c3 q).mpr (.inr (.inr rfl))
  have lk := inv1.w.q.lk [w] (List.mem_singleton.mpr rfl)
  have hqw : q ≠ w := hne.2.2.symm
  refine ⟨inv1.w.hw, fun a => by rw [A1.obj, c3], by rw [A1.head _ ha]; exact s5.hat, by rw [A1.head _ hb]; exact s5.hhw, by rw [A1.head _ hc]; exact s5.hhq, ?_, ?_, ?_, lk.2.1, ?_, ?_, ?_⟩
  ·rw [A1.get at0 ha s5.hat (by decide) (by show (0 : Int) < L; omega) (.inl (by decide))]; simp [hne.1, s5.gat]
  ·rw [A1.get w hb s5.hhw (by decide) (show (0 : Int) < 5 by decide) (.inl (by decide))]; simp
  ·rw [A1.get w hb s5.hhw (by decide) (show (1 : Int) < 5 by decide) (.inl (by decide))]; simp
  ·rw [A1.get q hc s5.hhq (by decide) (show (0 : Int) < 5 by decide) (.inl (by decide))]; simp [hqw, s5.gq0]
  ·rw [A1.get q hc s5.hhq (by decide) (show (1 : Int) < 5 by decide) (.inl (by decide))]; simp [hqw, s5.gq1]
  ·rw [A1.get q hc s5.hhq (by decide) (show (2 : Int) < 5 by decide) (.inr (by simp [hqw]))]; simp [hqw, s5.gq2]
 clear A1 erow ccl cpu cp pp d1 d2 c2 c3 hC nat2 hoat s5 inv w5
 refine Tr.drop (A := SLc s1 1 _) tk ?_
 refine Tr.drop (A := SLc s2 1 _) tk ?_
 refine Tr.drop (A := SLc s3 1 _) tk ?_
 refine Tr.drop (A := SLc s4 1 _) tk ?_
 refine en_nn ?_
 refine en_ld (k := .ptr) (b := i.p) (off := 3) (x := some ⟨i.f, 0, none⟩) (by rw [fa_mk]) tk rfl ?_
 refine en_call (fin_take i.f i.b [] [at0] (show 1 < 2 ^ 40 by decide) 0) tks ?_
 rintro x' M ⟨rfl, rfl⟩
 try simp only [lca, lna]
 rw [show Fn.takeR [at0] 0 = (at0, 0) from rfl, show Fn.takeS [at0] 0 = [] from rfl]
 refine en_nn ?_
 refine en_ld (k := .ptr) (b := i.p) (off := 2) (x := some ⟨i.o, 0, none⟩) (by rw [fa_mk]) tk rfl ?_
 refine en_call (root_place i.o ro1 hro1.1 2 at0) tks ?_
 rintro x' M ⟨rfl, rfl⟩
 try simp only [lca, lna]
 rw [if_pos (show ((0 : Int) ≤ 2 ∧ (2 : Int) < 16) ∧ 0 ≤ at0 from ⟨by decide, by omega⟩)]
 obtain ⟨hr2, hr3⟩ := hro2 at0
 generalize hro3 : ro1.set (2 : Int).toNat at0 = ro3 at *
 have w6 : Wl S6 [] [[w]] 2 [] [] := inv1.w.take 0
 have inv : (RX 0 [[w]] 2 S6 hs ro3 [] [] 0 1).Inv 3 := inv_of w6 (h0.le (by decide)) hr2 ⟨Int.le_refl 0, by show (0 : Int) < _; decide⟩ ⟨by show (0 : Int) ≤ 2; decide, by show (2 : Int) ≤ 3; decide⟩ ⟨by show (0 : Int) ≤ 1; decide, by show (1 : Int) ≤ 3; decide⟩ ⟨Int.le_refl 0, by show (0 : Int) < _; decide⟩ rfl
 refine en_call (gc_collect i (RX 0 [[w]] 2 S6 hs ro3 [] [] 0 1) (inv.ok2 (by decide)) false) tks ?_
 rintro _ _ ⟨y1, y2, s1, s2, s3, s4, l, m2, m3, hC, rfl, rfl⟩
 have inv2 := inv.after hC
 have c2 : ∀ a, Sp.has m2 a = true ↔ (a = at0 ∨ a = w ∨ a = q) := fun a => by
  rw [s6.m2 hC]
  constructor
  ·rintro ⟨g, ho⟩
   exact (s6.obj a).mp ho
  ·intro g
   have ho : Mk.obj S6 a := (s6.obj a).mpr g
   have ha := opos s6 ho
   refine ⟨(hroots ha).mpr (.inl ((hr3 a ha).mpr ?_)), ho⟩
   rcases g with g | g | g
   ·exact .inr (.inr g)
   ·exact .inl g
   ·exact .inr (.inl g)
 have cp : pendOf S6 m2 [] = [] := rfl
 have c3 : ∀ a, Sp.has m3 a = true ↔ (a = at0 ∨ a = w ∨ a = q) := fun a => by
  rw [hC.has3, c2]
  exact ⟨fun g => g.elim id fun g => absurd g Mk.rch_nil, .inl⟩
 obtain ⟨d1, _⟩ := s6.clr hne hC.perm m2
 obtain ⟨_, d2⟩ := s6.clr hne hC.perm m3
 have ccl : clrOf S6 m2 m3 l = [] := by
  unfold clrOf
  rw [d1, d2, if_neg (fun g => Mk.obj_zero s6.hw g.1), if_neg (fun g => g.2 ((c3 at0).mpr (.inl rfl)))]; rfl
 have cpu : putOf S6 m3 [] = [] := rfl
 have A1 := aft s6.hw w6.q hC (fun _ => 0) ccl cpu (fun a ha => by cases ha) (by simp)
 change (Rt.mk (Sw.sweep (Rf.enqs (Rf.clear S6 (clrOf S6 m2 m3 l)).2 [[w]] (putOf S6 m3 (clrOf S6 m2 m3 l))).1 (Mk.all m3)) [] (Rf.enqs (Rf.clear S6 (clrOf S6 m2 m3 l)).2 [[w]] (putOf S6 m3 (clrOf S6 m2 m3 l))).2 2 hs ro3 [] [] 60 0 2 0 2).Inv _ at inv2
 rw [ccl, cpu] at inv2
 have eX : Rt.after (RX 0 [[w]] 2 S6 hs ro3 [] [] 0 1) (clrOf S6 m2 m3 l) (putOf S6 m3 (clrOf S6 m2 m3 l)) (pendOf S6 m2 []) (Mk.all m3) = RX 0 [[w]] 2 (Sw.sweep S6 (Mk.all m3)) hs ro3 [] [] 0 2 := by
  rw [ccl, cpu, cp]; rfl
 rw [eX]
 clear eX
 try simp only [lca, lna]
 change Aft S6 (Sw.sweep S6 (Mk.all m3)) [[w]] [[w]] [] [] m3 _ at A1
 change (RX 0 [[w]] 2 (Sw.sweep S6 (Mk.all m3)) hs ro3 [] [] 0 2).Inv _ at inv2
 generalize Sw.sweep S6 (Mk.all m3) = S7 at *
 have s7 : Raise.St S7 at0 w q L x 0 (-1) at0 1 := by
  have ha := (c3 at0).mpr (.inl rfl)
  have hb := (c3 w).mpr (.inr (.inl rfl))
  have hc := (c3 q).mpr (.inr (.inr rfl))
  have lk := inv2.w.q.lk [w] (List.mem_singleton.mpr rfl)
  have hqw : q ≠ w := hne.2.2.symm
  refine ⟨inv2.w.hw, fun a => by rw [A1.obj, c3], by rw [A1.head _ ha]; exact s6.hat, by rw [A1.head _ hb]; exact s6.hhw, by rw [A1.head _ hc]; exact s6.hhq, ?_, ?_, ?_, lk.2.1, ?_, ?_, ?_⟩
  ·rw [A1.get at0 ha s6.hat (by decide) (by show (0 : Int) < L; omega) (.inl (by decide))]; simp [s6.gat]
  ·rw [A1.get w hb s6.hhw (by decide) (show (0 : Int) < 5 by decide) (.inl (by decide))]; simp [s6.gw0]
  ·rw [A1.get w hb s6.hhw (by decide) (show (1 : Int) < 5 by decide) (.inl (by decide))]; simp [s6.gw1]
  ·rw [A1.get q hc s6.hhq (by decide) (show (0 : Int) < 5 by decide) (.inl (by decide))]; simp [s6.gq0]
  ·rw [A1.get q hc s6.hhq (by decide) (show (1 : Int) < 5 by decide) (.inl (by decide))]; simp [s6.gq1]
  ·rw [A1.get q hc s6.hhq (by decide) (show (2 : Int) < 5 by decide) (.inr (by simp [hqw]))]; simp [s6.gq2]
 clear A1 ccl cpu cp d1 d2 c2 c3 hC s6 inv w6 inv1
 refine Tr.drop (A := SLc s1 1 _) tk ?_
 refine Tr.drop (A := SLc s2 1 _) tk ?_
 refine Tr.drop (A := SLc s3 1 _) tk ?_
 refine Tr.drop (A := SLc s4 1 _) tk ?_
 have w7 := inv2.w
 change Wl S7 [] [[w]] 2 [] [] at w7
 refine en_call (gc_view i (RX 0 [[w]] 2 S7 hs ro3 [] [] 0 2) (inv2.ok (by decide))) tks ?_
 rintro _ _ ⟨so, sh, sr, sq, sf, sp, lv, rfl, ⟨_, _, _, _, n5, n6⟩, hl, hly, rfl⟩
 try simp only [lca, lna]
 change sf.n = 0 at n5
 change sp.n = 0 at n6
 refine en_nw fun b36 => ?_
 refine en_st (b := b36) (off := 0) rfl tk (by simp) rfl ?_
 refine en_nn ?_
 refine en_ld (k := .ptr) (b := i.p) (off := 0) (x := some ⟨i.r, 0, none⟩) (by rw [fa_mk]) tk rfl ?_
 have er : Rf.referent S7 w 0 = ((0, 0), S7) := by
  unfold Rf.referent
  have es : Rf.str S7 w = (2, 0) := by unfold Rf.str; rw [s7.hhw]; rfl
  rw [es, s7.gw0]
  dsimp only
  rw [if_neg (by decide), if_neg (by decide)]
 refine en_call (rfs_referent i.r i.b S7 [] s7.hw [[w]] 2 w 0) tks ?_
 rintro _ _ ⟨rfl, rfl⟩
 rw [er]
 try simp only [lca, lna]
 refine en_nn ?_
 refine en_ld (k := .ptr) (b := i.p) (off := 3) (x := some ⟨i.f, 0, none⟩) (by rw [fa_mk]) tk rfl ?_
 refine en_nn (fin_heap (f := i.f) (hp := i.b) (by rw [fa_mk]) tk ?_)
 refine en_call (object_get i.b S7 [] s7.hw at0 0) tks ?_
 rintro _ _ ⟨rfl, rfl⟩
 rw [s7.gat]
 try simp only [lca, lna]
 refine en_nn ?_
 refine en_ld (k := .ptr) (b := i.p) (off := 0) (x := some ⟨i.r, 0, none⟩) (by rw [fa_mk]) tk rfl ?_
 refine en_nn (RfA.op (p := i.r) (hp := i.b) (rows := [[w]]) (n := 2) tk fun qp => ?_)
 refine en_ld (k := .ptr) (b := i.r) (off := 0) (x := some ⟨qp, 0, none⟩) (by rw [fa_mk]) tk rfl ?_
 refine en_call (que_list qp i.b S7 [] s7.hw [[w]] 0 rfl (w7.q.lk [w] (List.mem_singleton.mpr rfl)) (show 1 ≤ 2 ^ 30 by decide)) tks ?_
 rintro _ _ ⟨z1, rfl, hz1, rfl⟩
 try simp only [lca, lna]
 refine Tr.close tks (RfA.cl (p := i.r) (q := qp) (hp := i.b) (rows := [[w]]) (n := 2)) ?_
 change Tr _ _ (RfA i.r i.b [[w]] 2 :: SLc z1 1 (([w] : List Int).map i64) :: _) _ _
 refine en_nn ?_
 refine en_ld (k := .ptr) (b := i.p) (off := 2) (x := some ⟨i.o, 0, none⟩) (by rw [fa_mk]) tk rfl ?_
 refine en_call (root_place i.o ro3 hr2 2 0) tks ?_
 rintro x' M ⟨rfl, rfl⟩
 try simp only [lca, lna]
 rw [if_pos (show ((0 : Int) ≤ 2 ∧ (2 : Int) < 16) ∧ (0 : Int) ≤ 0 from by decide)]
 have hr4 : (ro3.set (2 : Int).toNat 0).length = 16 ∧ ∀ a, 0 < a → (a ∈ ro3.set (2 : Int).toNat 0 ↔ (a = w ∨ a = q)) := by
  obtain ⟨t1, t2⟩ := hro2 0
  rw [← hro3, List.set_set]
  refine ⟨t1, fun a ha => ?_⟩
  rw [t2 a ha]
  constructor
  ·rintro (g | g | g)
   ·exact .inl g
   ·exact .inr g
   ·omega
  ·rintro (g | g)
   ·exact .inl g
   ·exact .inr (.inl g)
 generalize ro3.set (2 : Int).toNat 0 = ro4 at *
 have inv : (RX 0 [[w]] 2 S7 hs ro4 [] [] 0 2).Inv 4 := inv_of w7 (h0.le (by decide)) hr4.1 ⟨Int.le_refl 0, by show (0 : Int) < _; decide⟩ ⟨by show (0 : Int) ≤ 2; decide, by show (2 : Int) ≤ 4; decide⟩ ⟨by show (0 : Int) ≤ 2; decide, by show (2 : Int) ≤ 4; decide⟩ ⟨Int.le_refl 0, by show (0 : Int) < _; decide⟩ rfl
 refine en_call (gc_collect i (RX 0 [[w]] 2 S7 hs ro4 [] [] 0 2) (inv.ok2 (by decide)) false) tks ?_
 rintro _ _ ⟨y1, y2, s1, s2, s3, s4, l, m2, m3, hC, rfl, rfl⟩
 have inv3 := inv.after hC
 have c2 : ∀ a, Sp.has m2 a = true ↔ (a = w ∨ a = q) := fun a => by
  rw [s7.m2 hC]
  constructor
  ·rintro ⟨g, ho⟩
   have ha := opos s7 ho
   rcases (hroots ha).mp g with g | ⟨r, hr, g⟩ | g
   ·exact (hr4.2 a ha).mp g
   ·rw [List.mem_singleton] at hr; subst hr; exact .inl (by simpa using g)
   ·cases g
  ·intro g
   have ho : Mk.obj S7 a := (s7.obj a).mpr (.inr g)
   exact ⟨(hroots (opos s7 ho)).mpr (.inl ((hr4.2 a (opos s7 ho)).mpr g)), ho⟩
 have nat2 : ¬ (at0 = w ∨ at0 = q) := fun g => by
  rcases g with g | g
  ·exact hne.1 g
  ·exact hne.2.1 g
 have cp : pendOf S7 m2 [] = [] := rfl
 have c3 : ∀ a, Sp.has m3 a = true ↔ (a = w ∨ a = q) := fun a => by
  rw [hC.has3, c2]
  exact ⟨fun g => g.elim id fun g => absurd g Mk.rch_nil, .inl⟩
 obtain ⟨d1, _⟩ := s7.clr hne hC.perm m2
 obtain ⟨_, d2⟩ := s7.clr hne hC.perm m3
 have ccl : clrOf S7 m2 m3 l = [q] := by
  unfold clrOf
  rw [d1, d2, if_neg (fun g => Mk.obj_zero s7.hw g.1), if_pos ⟨(s7.obj at0).mpr (.inl rfl), fun g => nat2 ((c3 at0).mp g)⟩]; rfl
 have cpu : putOf S7 m3 [q] = [q] := by
  unfold putOf
  rw [List.filter_cons_of_pos (by rw [(c3 q).mpr (.inr rfl), s7.gq1]; rfl)]; rfl
 have A1 := aft s7.hw w7.q hC (fun _ => 0) ccl cpu (fun a ha => by rw [List.mem_singleton] at ha; subst ha; rw [s7.gq1]; exact ⟨rfl, show (0 : Int) < 1 by decide⟩) (by simp)
 change (Rt.mk (Sw.sweep (Rf.enqs (Rf.clear S7 (clrOf S7 m2 m3 l)).2 [[w]] (putOf S7 m3 (clrOf S7 m2 m3 l))).1 (Mk.all m3)) [] (Rf.enqs (Rf.clear S7 (clrOf S7 m2 m3 l)).2 [[w]] (putOf S7 m3 (clrOf S7 m2 m3 l))).2 2 hs ro4 [] [] 60 0 2 0 3).Inv _ at inv3
 rw [ccl, cpu] at inv3
 have eX : Rt.after (RX 0 [[w]] 2 S7 hs ro4 [] [] 0 2) (clrOf S7 m2 m3 l) (putOf S7 m3 (clrOf S7 m2 m3 l)) (pendOf S7 m2 []) (Mk.all m3) = RX 0 (Rf.enqs (Rf.clear S7 [q]).2 [[w]] [q]).2 2 (Sw.sweep (Rf.enqs (Rf.clear S7 [q]).2 [[w]] [q]).1 (Mk.all m3)) hs ro4 [] [] 0 3 := by
  rw [ccl, cpu, cp]; rfl
 rw [eX]
 clear eX
 try simp only [lca, lna]
 have erow : (Rf.enqs (Rf.clear S7 [q]).2 [[w]] [q]).2 = [[w, q]] := Raise.one_row A1.len (by rw [A1.row 0 (show 0 < 1 by decide)]; rfl)
 rw [erow] at inv3 ⊢
 have w8 := inv3.w
 change Wl (Sw.sweep (Rf.enqs (Rf.clear S7 [q]).2 [[w]] [q]).1 (Mk.all m3)) [] [[w, q]] 2 [] [] at w8
 generalize Sw.sweep (Rf.enqs (Rf.clear S7 [q]).2 [[w]] [q]).1 (Mk.all m3) = S8 at *
 have hl4 : (Mk.all m3).length < 2 ^ 62 := by
  have h1 := Mk.all_len (m := m3)
  have h2 := hC.c3.len
  have hwl := s7.hw.wf.len
  have hp := s7.hw.wf.most
  change m3.length = S7.ws.length at h2
  omega
 have hnl : at0 ∉ Mk.all m3 := fun g => nat2 ((c3 at0).mp (Mk.mem_all.mp g))
 generalize Mk.all m3 = lv4 at *
 refine en_nw fun b54 => ?_
 refine en_st (b := b54) (off := 0) rfl tk (by simp) rfl ?_
 refine en_nn ?_
 refine en_ld (k := .ptr) (b := i.p) (off := 0) (x := some ⟨i.r, 0, none⟩) (by rw [fa_mk]) tk rfl ?_
 refine en_nn (RfA.op (p := i.r) (hp := i.b) (rows := [[w, q]]) (n := 2) tk fun qp => ?_)
 refine en_ld (k := .ptr) (b := i.r) (off := 0) (x := some ⟨qp, 0, none⟩) (by rw [fa_mk]) tk rfl ?_
 refine en_call (que_list qp i.b S8 [] w8.hw [[w, q]] 0 rfl (w8.q.lk [w, q] (List.mem_singleton.mpr rfl)) (show 2 ≤ 2 ^ 30 by decide)) tks ?_
 rintro _ _ ⟨z2, rfl, hz2, rfl⟩
 try simp only [lca, lna]
 refine Tr.close tks (RfA.cl (p := i.r) (q := qp) (hp := i.b) (rows := [[w, q]]) (n := 2)) ?_
 change Tr _ _ (RfA i.r i.b [[w, q]] 2 :: SLc z2 1 (([w, q] : List Int).map i64) :: _) _ _
 iterate 11
  refine en_call (law_err _) .nil ?_
  rintro x' M ⟨rfl, rfl⟩
  try simp only [lca, lna]
 refine en_brt rfl (en_brt (by simp) (en_brt rfl (en_brt (by simp) ?_)))
 refine en_ld (k := .slice) (b := b36) (off := 5) (x := sp) (by rw [fa_mk]) tk rfl ?_
 refine en_ld (k := .slice) (b := b36) (off := 4) (x := sf) (by rw [fa_mk]) tk rfl ?_
 refine en_brt (by rw [n5, n6]; rfl) ?_
 refine Tr.keepSL (s := z1) (xs := ([w] : List Int).map i64) tk fun ρ1 hle1 ro1' => ?_
 refine Tr.keepSL (s := z2) (xs := ([w, q] : List Int).map i64) tk fun ρ2 hle2 ro2' => ?_
 replace ro1' := ro1'.le hle2
 refine en_nw fun b73 => ?_
 refine Rd.bk (n := 1) (m := 1) (vs := ([w] : List Int).map i64) rfl tk fun ρ3 hle3 ro3' => ?_
 replace ro1' := ro1'.le hle3
 replace ro2' := ro2'.le hle3
 refine en_call (same_ints z1 ⟨some ⟨b73, 0, none⟩, 1, 1⟩ [w] [w] ro1' ro3' (show 1 < 2 ^ 62 by decide)) tks ?_
 rintro x' M ⟨rfl, rfl⟩
 try simp only [lca, lna]
 refine en_brt (by simp) ?_
 refine en_ld (k := .slice) (b := b54) (off := 3) (x := s4) (by rw [fa_mk]) tk rfl ?_
 refine en_call (spec_in s4 lv4 hl4 at0) tks ?_
 rintro x' M ⟨rfl, rfl⟩
 try simp only [lca, lna]
 refine en_brt (by simpa using hnl) ?_
 refine en_nw fun b77 => ?_
 refine Rd.bk (n := 2) (m := 1) (vs := ([w, q] : List Int).map i64) rfl tk fun ρ4 hle4 ro4' => ?_
 replace ro2' := ro2'.le hle4
 refine en_call (same_ints z2 ⟨some ⟨b77, 0, none⟩, 2, 2⟩ [w, q] [w, q] ro2' ro4' (show 2 < 2 ^ 62 by decide)) tks ?_
 rintro x' M ⟨rfl, rfl⟩
 try simp only [lca, lna]
 refine en_brt (by simp) ?_
 refine en_call (law_awake20) tks ?_
 rintro x' M ⟨rfl, rfl⟩
 try simp only [lca, lna]
 exact en_rets (x := true) rfl ⟨rfl, rfl⟩ tks ens
end Go.Proofs.YtdplphebjhfliaaGreat
