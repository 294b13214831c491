/- The law GcHolds. -/
import Derived.Test.YtdplphebjhfliaaGreatGsL20b
import Derived.Test.YtdplphebjhfliaaGreatGsTxGcHolds
set_option linter.unusedSimpArgs false
set_option linter.unusedVariables false
namespace Go.Proofs.YtdplphebjhfliaaGreat
open Go Go.Gl
variable {ρ0 ρ : FR} {L L' : List Asn} {Post : Value → List Asn → Prop} {T : Tree}
namespace Chain
def bx (a : Int) (j : Nat) (x : Int) : Ob1 := ⟨a, ⟨2, 0, 2, false⟩, [0, 0].set (j % 2) x⟩
theorem bx0 (a : Int) (j : Nat) : bx a j 0 = ⟨a, ⟨2, 0, 2, false⟩, [0, 0]⟩ := by
 unfold bx
 rcases Nat.mod_two_eq_zero_or_one j with h | h <;> rw [h] <;> rfl
theorem kid (a : Int) (j : Nat) (x : Int) : x ∈ (bx a j x).ws := by
 unfold bx
 rcases Nat.mod_two_eq_zero_or_one j with h | h <;> rw [h]
 ·show x ∈ [x, 0]
  simp
 ·show x ∈ [0, x]
  simp
def row (l : List Int) : List Ob1 := (List.range l.length).map fun j => bx (l.getD j 0) j (if j + 1 < l.length then l.getD (j + 1) 0 else 0)
theorem row_len {l : List Int} : (row l).length = l.length := by simp [row]
theorem row_get {l : List Int} {j : Nat} (hj : j < l.length) : (row l)[j]? = some (bx (l.getD j 0) j (if j + 1 < l.length then l.getD (j + 1) 0 else 0)) := by
 unfold row; rw [List.getElem?_map, List.getElem?_range hj]; rfl
theorem row_as {l : List Int} : (row l).map (·.a) = l := by
 apply List.ext_getElem?
 intro j
 rw [List.getElem?_map]
 by_cases hj : j < l.length
 ·rw [row_get hj, Option.map_some, List.getD_eq_getElem?_getD, List.getElem?_eq_getElem hj]; rfl
 ·rw [List.getElem?_eq_none (by rw [row_len]; omega), List.getElem?_eq_none (by omega)]; rfl
theorem row_mem {l : List Int} {o : Ob1} (h : o ∈ row l) : o.h = ⟨2, 0, 2, false⟩ := by
 unfold row at h
 obtain ⟨j, hj, rfl⟩ := List.mem_map.mp h
 rfl
theorem getD_app {l : List Int} {a : Int} {j : Nat} (h : j < l.length) : (l ++ [a]).getD j 0 = l.getD j 0 := by
 rw [List.getD_eq_getElem?_getD, List.getD_eq_getElem?_getD, List.getElem?_append_left h]
theorem getD_last' {l : List Int} {a : Int} : (l ++ [a]).getD l.length 0 = a := by
 rw [List.getD_eq_getElem?_getD, List.getElem?_append_right (Nat.le_refl _), Nat.sub_self]; rfl
theorem row_snoc {l : List Int} {n : Nat} (hn : l.length = n + 1) (a : Int) : ((row l ++ [(⟨a, ⟨2, 0, 2, false⟩, [0, 0]⟩ : Ob1)]).set n (bx (l.getD n 0) n a)) = row (l ++ [a]) := by
 apply List.ext_getElem?
 intro j
 rw [List.getElem?_set]
 by_cases e : n = j
 ·subst e
  rw [if_pos rfl, if_pos (by simp [row_len]; omega), row_get (by simp; omega), if_pos (by simp; omega), getD_app (by omega), ← hn, getD_last']
 ·rw [if_neg e]
  by_cases hj : j < l.length
  ·rw [List.getElem?_append_left (by rw [row_len]; exact hj), row_get hj, row_get (by simp; omega), if_pos (by omega), if_pos (by simp; omega), getD_app hj, getD_app (by omega)]
  ·by_cases e2 : j = l.length
   ·subst e2
    rw [List.getElem?_append_right (by rw [row_len]; exact Nat.le_refl _), row_len, Nat.sub_self, row_get (by simp), if_neg (by simp), getD_last', bx0]; rfl
   ·rw [List.getElem?_eq_none (by simp [row_len]; omega), List.getElem?_eq_none (by simp [row_len]; omega)]
theorem reach {S : Spc} {os : List Ob1} {l : List Int} (H : Bo S [] os) (has : os.map (·.a) = l) (hk : ∀ o ∈ os, o.h.k = 2) (hw : ∀ j, j + 1 < l.length → ∃ o, os[j]? = some o ∧ l.getD (j + 1) 0 ∈ o.ws) {R : List Int} (h : Mk.Rch S [] R (l.getD 0 0)) : ∀ a ∈ l, Mk.Rch S [] R a := by
 have hall : ∀ j, j < l.length → Mk.Rch S [] R (l.getD j 0) := fun j => by
  induction j with
  | zero => exact fun _ => h
  | succ j ih =>
   intro hj
   have h1 := ih (by omega)
   obtain ⟨o, ho, hm⟩ := hw j hj
   have hoa : o.a = l.getD j 0 := by
    have : (os.map (·.a))[j]? = some o.a := by rw [List.getElem?_map, ho]; rfl
    rw [has] at this
    rw [List.getD_eq_getElem?_getD, this]; rfl
   have hmem := List.mem_of_getElem? ho
   have hk2 := hk o hmem
   have hkids := H.kids hmem (by rw [hk2]; decide)
   refine .step h1 ?_ ?_
   ·rw [← hoa, hkids]; unfold Bx.kidsO; rw [if_pos hk2]; exact hm
   ·refine H.obj.mpr ?_
    have : l.getD (j + 1) 0 ∈ os.map (·.a) := by rw [has, List.getD_eq_getElem?_getD, List.getElem?_eq_getElem hj]; exact List.getElem_mem hj
    obtain ⟨o', ho', e⟩ := List.mem_map.mp this
    exact ⟨o', ho', e⟩
 intro a ha
 obtain ⟨j, hj, rfl⟩ := List.mem_iff_getElem.mp ha
 have := hall j hj
 rw [List.getD_eq_getElem?_getD, List.getElem?_eq_getElem hj] at this
 exact this
end Chain
theorem law_gcholds (which deep : Int) (hw : 0 ≤ which ∧ which < 256) (hd : 0 ≤ deep ∧ deep < 256) : Gl.Spec ρ Tryz.prog 5 [.int .u8 which, .int .u8 deep] [] RB fun r M => r = true ∧ M = [] := by
 refine Gl.Spec.of (fun Q w h => F.gloaminglaw20.GcHolds.calls which deep h) fun R => ?_
 unfold F.gloaminglaw20.GcHolds
 try simp only [lca, lna]
 refine en_call (made60 0 1 (by decide) (by decide)) tks ?_
 rintro _ _ ⟨i, S0, hs0, ro, rfl, rfl, b0, w0, h0, r0, hro⟩
 try simp only [lca, lna]
 change Wl S0 [] [[]] 0 [] [] at w0
 refine en_brf rfl ?_
 have hf0 : Hn.free hs0 = some 0 := Hn.free_is (by rw [h0.len]; decide) (by rw [r0]) fun t ht => by omega
 have ht0 : Hn.told hs0 0 = 512 := by unfold Hn.told; rw [r0]; rfl
 refine en_call (box60 i b0 w0 h0 (by decide) (by decide) hf0 2 (by decide) (by decide)) tks ?_
 rintro _ _ ⟨at0, S1, hs1, rfl, rfl, hat, b1, w1, h1, r1⟩
 try simp only [lca, lna]
 rw [ht0, zcOut, zcView]
 rw [wrap64 (n := deep) (by omega) (by omega), Int.tmod_eq_emod_of_nonneg hd.1, Int.tmod_eq_emod_of_nonneg hw.1]
 obtain ⟨K, hK, hK2⟩ : ∃ K : Nat, deep % 9 = K ∧ K ≤ 8 := ⟨(deep % 9).toNat, by omega, by omega⟩
 rw [hK]
 clear hK
 have hq0 : 0 ≤ which % 4 ∧ which % 4 < 4 := by omega
 generalize which % 4 = q at hq0 ⊢
 refine en_lp (I := fun m u M => ∃ (j : Nat) (S : Spc) (hs : List Hn.Slot) (l : List Int), j ≤ K ∧ m = K - j ∧ u = (l.getD j 0, (j : Int), ()) ∧ l.length = j + 1 ∧ l.getD 0 0 = at0 ∧ Bx S [] 60 (Chain.row l) ∧ Wl S [] [[]] 0 [] [] ∧ HI j hs ∧ (∀ t, (Hn.at' hs t).2 = if t = 0 then at0 else 0) ∧ (Hn.at' hs 0).1 = 0 ∧
  M = i.A (RX 0 [[]] 0 S hs ro [] [] 0 0) ++ R) K ⟨0, S1, hs1, [at0], by omega, rfl, rfl, rfl, rfl, b1, w1, h1, fun t => by rw [r1, r0, r0]; split <;> rfl, by rw [r1, r0]; rfl, rfl⟩ ?_
 clear b1 w1 h1 r1
 rintro m _ _ ⟨j, S, hs, l, hj, rfl, rfl, hlj, hl0, b1, w1, h1, r1, r2, rfl⟩ X hX
 try simp only [lca, lna]
 refine en_need (by decide) (en_br (fun hc => ?_) (fun hc => ?_))
 ·have hj' : (j : Int) < K := of_decide_eq_true hc
  have hf : Hn.free hs = some 1 := by
   refine Hn.free_is (by rw [h1.len]; decide) (by rw [r1]; rfl) fun t ht => ?_
   rw [r1, if_pos (by omega)]; omega
  refine en_call (box60 i b1 w1 h1 (by omega) (by rw [Chain.row_len]; omega) hf 2 (by decide) (by decide)) tks ?_
  rintro _ _ ⟨a, S2, hs2, rfl, rfl, ha, b2, w2, h2, q2⟩
  try simp only [lca, lna]
  refine en_brf (beq_eq_false_iff_ne.mpr (Int.ne_of_gt ha)) ?_
  refine en_nn ?_
  refine en_ld (k := .ptr) (b := i.p) (off := 3) (x := some ⟨i.f, 0, none⟩) (by rw [fa_mk]) tk rfl ?_
  refine en_nn (fin_heap (f := i.f) (hp := i.b) (by rw [fa_mk]) tk ?_)
  refine en_need (by decide) ?_
  have e2 : Int.tmod (j : Int) 2 = ((j % 2 : Nat) : Int) := by rw [Int.tmod_eq_emod_of_nonneg (by omega)]; omega
  rw [e2]
  obtain ⟨p1, p2⟩ := b2.put (i := j) (by rw [List.getElem?_append_left (by rw [Chain.row_len]; omega)]; exact Chain.row_get (by omega)) (k := j % 2) (show ((j % 2 : Nat) : Int) < 2 by omega) a
  have hnr : Qu.isR S2 (l.getD j 0) = false := by
   cases e : Qu.isR S2 (l.getD j 0) with
   | false => rfl
   | true =>
    obtain ⟨o, ho, _, hk⟩ := b2.bo.isR.mp e
    rcases List.mem_append.mp ho with ho | ho
    ·rw [Chain.row_mem ho] at hk; cases hk
    ·rw [List.mem_singleton] at ho; subst ho; cases hk
  refine en_call (object_put i.b S2 [] b2.hw (l.getD j 0) ((j % 2 : Nat) : Int) a) tks ?_
  rintro x' M ⟨rfl, rfl⟩
  try simp only [lca, lna]
  have w3 := w2.put (i := ((j % 2 : Nat) : Int)) (x := a) (.inl hnr)
  have b3 : Bx (Ob.put S2 (l.getD j 0) ((j % 2 : Nat) : Int) a).2 [] 60 (Chain.row (l ++ [a])) := by
   rw [← Chain.row_snoc hlj a]
   have : (Chain.bx (l.getD j 0) j (if j + 1 < l.length then l.getD (j + 1) 0 else 0)).ws.set (j % 2) a = (Chain.bx (l.getD j 0) j a).ws := by unfold Chain.bx; dsimp only; rw [List.set_set]
   rw [this] at p2
   exact p2
  generalize (Ob.put S2 (l.getD j 0) ((j % 2 : Nat) : Int) a).2 = S3 at *
  refine en_nn ?_
  refine en_ld (k := .ptr) (b := i.p) (off := 1) (x := some ⟨i.h, 0, none⟩) (by rw [fa_mk]) tk rfl ?_
  have q21 := q2 1
  rw [if_pos rfl] at q21
  have htold : Hn.told hs 1 = Hn.told hs2 1 := by unfold Hn.told; rw [q21]
  obtain ⟨d1, d2⟩ := Hn.drop_is (h2.ok (by omega)) (i := 1) (by decide) (by rw [q21]; exact Int.ne_of_gt ha)
  rw [htold]
  refine en_call (han_drop i.h (h2.ok (by omega)) (Hn.told hs2 1)) tks ?_
  rintro x' M ⟨rfl, rfl⟩
  try simp only [lca, lna]
  rw [wrap64 (n := (j : Int) + 1) (by omega) (by omega)]
  have h3 := h2.drop (by omega) (Hn.told hs2 1)
  generalize Hn.dropS hs2 (Hn.told hs2 1) = hs3 at *
  refine Tr.perm (Takes.perm (M := i.A (RX 0 [[]] 0 S3 hs3 ro [] [] 0 0)) tks) (hX (K - (j + 1)) _ _ (by omega) ⟨j + 1, S3, hs3, l ++ [a], by omega, rfl, by rw [← hlj, Chain.getD_last', hlj]; rfl, by rw [List.length_append, hlj]; rfl, by rw [Chain.getD_app (by omega)]; exact hl0, b3, w3, h3, fun t => ?_, ?_, rfl⟩)
  ·rw [d2]
   by_cases e : t = 1
   ·subst e; rfl
   ·rw [if_neg e, q2, if_neg e, r1]
  ·rw [d2, if_neg (by decide), q2, if_neg (by decide)]; exact r2
 have hjK : j = K := by have : ¬ (j : Int) < K := of_decide_eq_false hc; omega
 subst hjK
 clear hX hc hj
 refine en_need (by decide) ?_
 have hat0 : at0 ∈ l := by rw [← hl0, List.getD_eq_getElem?_getD, List.getElem?_eq_getElem (by omega)]; exact List.getElem_mem _
 have hat' := Hn.drop_is (h1.ok (by omega)) (i := 0) (by decide) (by rw [r1, if_pos rfl]; exact Int.ne_of_gt hat)
 have ht1 : Hn.told hs 0 = 512 := by unfold Hn.told; rw [r2]; rfl
 rw [ht1] at hat'
 obtain ⟨d1, d2⟩ := hat'
 have hd3 := h1.drop (by omega) 512
 have hdz : ∀ t, (Hn.at' (Hn.dropS hs 512) t).2 = 0 := fun t => by
  rw [d2]
  by_cases e : t = 0
  ·rw [if_pos e]
  ·rw [if_neg e, r1, if_neg e]
 have hok := h1.ok (by omega)
 have hlk : ∀ {S' : Spc} {os : List Ob1}, Bo S' [] os → os.map (·.a) = l → (∀ o ∈ os, o.h.k = 2) → (∀ j, j + 1 < l.length → ∃ o, os[j]? = some o ∧ l.getD (j + 1) 0 ∈ o.ws) → ∀ R', Mk.Rch S' [] R' at0 → ∀ a ∈ l, Mk.Rch S' [] R' a := fun H e1 e2 e3 R' g => Chain.reach H e1 e2 e3 (by rw [hl0]; exact g)
 have hch : ∀ j, j + 1 < l.length → ∃ o, (Chain.row l)[j]? = some o ∧ l.getD (j + 1) 0 ∈ o.ws := fun j hj => ⟨_, Chain.row_get (by omega), by rw [if_pos hj]; exact Chain.kid ..⟩
 refine en_jn (fun _ M => ∃ (S : Spc) (hs : List Hn.Slot) (ro wa : List Int) (os : List Ob1), M = i.A (RX 0 [[]] 0 S hs ro wa [] 0 0) ++ R ∧ Bo S [] os ∧ os.map (·.a) = l ∧ (∀ o ∈ os, o.h.k = 2) ∧ (∀ R', Mk.Rch S [] R' at0 → ∀ a ∈ l, Mk.Rch S [] R' a) ∧ Wl S [] [[]] 0 wa [] ∧ HI 20 hs ∧ ro.length = 16 ∧
  (∀ a, 0 < a → (((∃ t, t < 512 ∧ (Hn.at' hs t).2 = a) ∨ a ∈ ro) ↔ (q ≠ 1 ∧ q ≠ 2 ∧ a = at0))) ∧ wa = if q = 1 then [at0] else []) ?_ ?_
 ·rintro _ _ ⟨S, hs, ro, wa, os, rfl, bo, hal, hk2, hrc, w1, h1, hro, hrt, hwa⟩
  clear hch hlk hdz hd3 d2 d1 r1 r2 hok ht1
  have inv : (RX 0 [[]] 0 S hs ro wa [] 0 0).Inv 20 := inv_of w1 h1 hro ⟨Int.le_refl 0, by show (0 : Int) < _; decide⟩ ⟨Int.le_refl 0, by show (0 : Int) ≤ 20; decide⟩ ⟨Int.le_refl 0, by show (0 : Int) ≤ 20; decide⟩ ⟨Int.le_refl 0, by show (0 : Int) < _; decide⟩ rfl
  refine en_call (gc_collect i _ (inv.ok2 (by decide)) false) tks ?_
  rintro _ _ ⟨y1, y2, s1, s2, s3, s4, l9, m2, m3, hC, rfl, rfl⟩
  try simp only [lca, lna]
  have inv2 := inv.after hC
  obtain ⟨c1, c2⟩ := coll_norefs bo (fun o ho => by rw [hk2 o ho]; decide) hC
  change clrOf S m2 m3 l9 = [] at c1
  change (Rt.after (RX 0 [[]] 0 S hs ro wa [] 0 0) (clrOf S m2 m3 l9) (putOf S m3 (clrOf S m2 m3 l9)) (pendOf S m2 wa) (Mk.all m3)).Inv _ at inv2
  rw [c1, show putOf S m3 [] = [] from rfl] at inv2
  rw [c1, show putOf S m3 [] = [] from rfl]
  have hob : ∀ a, Mk.obj S a ↔ a ∈ l := fun a => by
   rw [bo.obj, ← hal, List.mem_map]
  have h2 : ∀ a, Sp.has m2 a = true ↔ (q ≠ 1 ∧ q ≠ 2 ∧ a ∈ l) := fun a => by
   rw [c2, rch_iff (R' := if q ≠ 1 ∧ q ≠ 2 then [at0] else []) (fun b hb => ?_)]
   ·constructor
    ·intro g
     have := (hob a).mp g.obj
     by_cases hq : q ≠ 1 ∧ q ≠ 2
     ·exact ⟨hq.1, hq.2, this⟩
     ·rw [if_neg hq] at g; exact absurd g Mk.rch_nil
    ·rintro ⟨g1, g2, g3⟩
     rw [if_pos ⟨g1, g2⟩]
     exact hrc _ (.root (by simp) ((hob at0).mpr hat0)) a g3
   ·obtain ⟨o, ho, e⟩ := bo.obj.mp hb
    have hb0 : 0 < b := e ▸ bo.pos ho
    rw [mem_roots h1.len hb0]
    have := hrt b hb0
    constructor
    ·intro g
     have g' : (∃ t, t < 512 ∧ (Hn.at' hs t).2 = b) ∨ b ∈ ro := by
      rcases g with g | g | g | g
      ·exact .inl g
      ·exact .inr g
      ·obtain ⟨r, hr, hbr⟩ := g
       have : r = [] := by simpa using hr
       subst this; cases hbr
      ·cases g
     obtain ⟨g1, g2, g3⟩ := this.mp g'
     rw [if_pos ⟨g1, g2⟩]; simpa using g3
    ·intro g
     by_cases hq : q ≠ 1 ∧ q ≠ 2
     ·rw [if_pos hq] at g
      rcases this.mpr ⟨hq.1, hq.2, by simpa using g⟩ with g | g
      ·exact .inl g
      ·exact .inr (.inl g)
     ·rw [if_neg hq] at g; cases g
  have hpn : pendOf S m2 wa = if q = 1 then [at0] else [] := by
   rw [hwa]
   by_cases hq : q = 1
   ·rw [if_pos hq]
    have hlo : lostB S m2 (0, 0, at0, 0, 0, 0, ()) = true := lost_iff.mpr ⟨(hob at0).mpr hat0, fun g => ((h2 at0).mp g).1 hq⟩
    show pend1 S m2 [] at0 = _
    unfold pend1
    rw [if_pos ⟨hlo, by simp⟩]; rfl
   ·rw [if_neg hq]; rfl
  rw [hpn] at inv2 ⊢
  have h3 : ∀ a, Sp.has m3 a = true ↔ (q ≠ 2 ∧ a ∈ l) := fun a => by
   rw [hC.has3, h2]
   change _ ∨ Mk.Rch S [] (pendOf S m2 wa) a ↔ _
   rw [hpn]
   by_cases hq : q = 1
   ·rw [if_pos hq]
    constructor
    ·rintro (g | g)
     ·exact absurd hq g.1
     ·exact ⟨by omega, (hob a).mp g.obj⟩
    ·rintro ⟨_, g⟩
     exact .inr (hrc _ (.root (by simp) ((hob at0).mpr hat0)) a g)
   ·rw [if_neg hq]
    constructor
    ·rintro (g | g)
     ·exact ⟨g.2.1, g.2.2⟩
     ·exact absurd g Mk.rch_nil
    ·rintro ⟨g1, g2⟩
     exact .inl ⟨hq, g1, g2⟩
  have hwp : Fn.pend wa [] (if q = 1 then [at0] else []) = ([], if q = 1 then [at0] else []) := by
   rw [hwa]
   by_cases hq : q = 1
   ·rw [if_pos hq]; simp [Fn.pend, Fn.pend1]
   ·rw [if_neg hq]; rfl
  have key : ∃ os', (Mk.all m3).length = (if q = 2 then 0 else l.length) ∧ Bo (Sw.sweep S (Mk.all m3)) [] os' ∧ os'.length = (if q = 2 then 0 else l.length) ∧ ∀ o ∈ os', o.h.k = 2 := by
   by_cases hq : q = 2
   ·obtain ⟨t1, t2⟩ := live_none bo (fun a g => ((h3 a).mp g).1 hq)
    rw [t1, if_pos hq]
    exact ⟨[], rfl, t2, rfl, fun o ho => by cases ho⟩
   ·obtain ⟨t1, t2, t3⟩ := live_all bo (fun a => by rw [h3, hal]; exact ⟨fun g => g.2, fun g => ⟨hq, g⟩⟩)
    rw [if_neg hq]
    have : os.length = l.length := by rw [← hal, List.length_map]
    exact ⟨os, t1.trans this, t3, this, hk2⟩
  obtain ⟨os', k1, k2, k3, k4⟩ := key
  change (Rt.mk (Sw.sweep S (Mk.all m3)) [] [[]] 0 hs ro (Fn.pend wa [] (if q = 1 then [at0] else [])).1 (Fn.pend wa [] (if q = 1 then [at0] else [])).2 60 0 2 0 1).Inv _ at inv2
  rw [hwp] at inv2
  have eM : i.A (Rt.after (RX 0 [[]] 0 S hs ro wa [] 0 0) [] [] (if q = 1 then [at0] else []) (Mk.all m3)) = i.A (RX 0 [[]] 0 (Sw.sweep S (Mk.all m3)) hs ro [] (if q = 1 then [at0] else []) 0 1) := by
   show i.A (Rt.mk (Sw.sweep S (Mk.all m3)) [] [[]] 0 hs ro (Fn.pend wa [] (if q = 1 then [at0] else [])).1 (Fn.pend wa [] (if q = 1 then [at0] else [])).2 60 0 2 0 1) = _
   rw [hwp]
  change Tr _ _ ([_, _, _, _] ++ (i.A (Rt.after (RX 0 [[]] 0 S hs ro wa [] 0 0) [] [] (if q = 1 then [at0] else []) (Mk.all m3)) ++ _)) _ _
  rw [eM]
  try simp only [lca, lna]
  clear eM
  refine Tr.nlen (s := s4) (xs := Mk.all m3) tk fun hn4 => ?_
  rw [k1] at hn4
  generalize Sw.sweep S (Mk.all m3) = S' at *
  refine en_nw fun b8 => ?_
  refine en_st (b := b8) (off := 0) rfl tk (by simp) rfl ?_
  refine en_call (gc_view i _ (inv2.ok (by decide))) tks ?_
  rintro _ _ ⟨so, sh, sr, sq, sf, sp, lv, rfl, ⟨n1, n2, n3, n4, n5, n6⟩, hl, hly, rfl⟩
  try simp only [lca, lna]
  have n1' : so.n = if q = 2 then 0 else l.length := by rw [n1]; exact (k2.objs.length_eq).trans k3
  have n6' : sp.n = if q = 1 then 1 else 0 := by rw [n6]; show (if q = 1 then [at0] else []).length = _; split <;> rfl
  refine en_nw fun b10 => ?_
  refine en_st (b := b10) (off := 0) rfl tk (by simp) rfl ?_
  refine en_jnI (en_need (by decide) ?_)
  have rest : ∀ z : Int, z = (if q = 2 then 0 else (l.length : Int)) → (((s4.n : Nat) : Int) != z) = false ∧ (((so.n : Nat) : Int) != z) = false := fun z hz => by
   rw [hn4, n1', hz]
   by_cases hq : q = 2
   ·rw [if_pos hq, if_pos hq]; exact ⟨rfl, rfl⟩
   ·rw [if_neg hq, if_neg hq]; simp
  have ew : IntKind.wrap .i64 (1 + (j : Int)) = (l.length : Int) := by rw [wrap64 (by omega) (by omega)]; omega
  rw [ew]
  refine en_br (fun hq => ?_) (fun hq => ?_)
  ·have hq : q = 2 := by simpa using hq
   obtain ⟨e1, e2⟩ := rest 0 (by rw [if_pos hq])
   refine en_brf (beq_eq_false_iff_ne.mpr (Int.ne_of_gt hat)) ?_
   iterate 1
    refine en_call (law_err _) .nil ?_
    rintro x' M ⟨rfl, rfl⟩
    try simp only [lca, lna]
   refine en_brf rfl ?_
   refine en_ld (k := .slice) (b := b8) (off := 3) (x := s4) (by rw [fa_mk]) tk rfl ?_
   refine en_brf e1 ?_
   refine en_ld (k := .slice) (b := b10) (off := 0) (x := so) (by rw [fa_mk]) tk rfl ?_
   refine en_brf e2 ?_
   refine en_ld (k := .slice) (b := b10) (off := 5) (x := sp) (by rw [fa_mk]) tk rfl ?_
   refine en_brf (by rw [n6', if_neg (by omega)]; rfl) ?_
   refine en_need (by decide) (en_brf (by rw [hq]; rfl) ?_)
   refine en_call (law_awake20) tks ?_
   rintro x' M ⟨rfl, rfl⟩
   try simp only [lca, lna]
   exact en_rets (x := true) rfl ⟨rfl, rfl⟩ tks ens
  ·have hq : q ≠ 2 := by simpa using hq
   obtain ⟨e1, e2⟩ := rest l.length (by rw [if_neg hq])
   refine en_brf (beq_eq_false_iff_ne.mpr (Int.ne_of_gt hat)) ?_
   iterate 1
    refine en_call (law_err _) .nil ?_
    rintro x' M ⟨rfl, rfl⟩
    try simp only [lca, lna]
   refine en_brf rfl ?_
   refine en_ld (k := .slice) (b := b8) (off := 3) (x := s4) (by rw [fa_mk]) tk rfl ?_
   refine en_brf e1 ?_
   refine en_ld (k := .slice) (b := b10) (off := 0) (x := so) (by rw [fa_mk]) tk rfl ?_
   refine en_brf e2 ?_
   refine en_ld (k := .slice) (b := b10) (off := 5) (x := sp) (by rw [fa_mk]) tk rfl ?_
   by_cases hq1 : q = 1
   rotate_left
   ·refine en_brf (by rw [n6', if_neg hq1]; rfl) ?_
    refine en_need (by decide) (en_brf (by simpa using hq1) ?_)
    refine en_call (law_awake20) tks ?_
    rintro x' M ⟨rfl, rfl⟩
    try simp only [lca, lna]
    exact en_rets (x := true) rfl ⟨rfl, rfl⟩ tks ens
   rw [if_pos hq1] at n6' inv2 ⊢
   refine en_brt (by rw [n6']; rfl) ?_
   refine en_need (by decide) (en_brf (by rw [hq1]; rfl) ?_)
   refine en_need (by decide) (en_brt (by rw [hq1]; rfl) ?_)
   refine en_nn ?_
   refine en_ld (k := .ptr) (b := i.p) (off := 3) (x := some ⟨i.f, 0, none⟩) (by rw [fa_mk]) tk rfl ?_
   refine en_call (fin_take i.f i.b [] [at0] (show 1 < 2 ^ 40 by decide) 0) tks ?_
   rintro x' M ⟨rfl, rfl⟩
   try simp only [lca, lna]
   rw [show Fn.takeR [at0] 0 = (at0, 0) from rfl, show Fn.takeS [at0] 0 = [] from rfl]
   have inv3 : (RX 0 [[]] 0 S' hs ro [] [] 0 1).Inv 21 := { inv2 with w := inv2.w.take 0 }
   refine en_call (gc_collect i _ (inv3.ok2 (by decide)) false) tks ?_
   rintro _ _ ⟨y1', y2', u1, u2, u3, u4, l8, m4, m5, hC', rfl, rfl⟩
   try simp only [lca, lna]
   obtain ⟨f1, f2⟩ := coll_norefs k2 (fun o ho => by rw [k4 o ho]; decide) hC'
   have h5 : ∀ a, ¬ Sp.has m5 a = true := fun a g => by
    rw [hC'.has3, f2] at g
    have g : Mk.Rch S' [] (RX 0 [[]] 0 S' hs ro [] [] 0 1).roots a := g.elim id fun g => absurd g Mk.rch_nil
    refine Mk.rch_nil ((rch_iff (R' := []) fun b hb => ?_).mp g)
    obtain ⟨o, ho, e⟩ := k2.obj.mp hb
    have hb0 : 0 < b := e ▸ k2.pos ho
    rw [mem_roots h1.len hb0]
    refine ⟨fun g => ?_, fun g => by cases g⟩
    have g' : (∃ t, t < 512 ∧ (Hn.at' hs t).2 = b) ∨ b ∈ ro := by
     rcases g with g | g | g | g
     ·exact .inl g
     ·exact .inr g
     ·obtain ⟨r, hr, hbr⟩ := g
      have : r = [] := by simpa using hr
      subst this; cases hbr
     ·cases g
    exact absurd hq1 ((hrt b hb0).mp g').1
   refine Tr.nlen (s := u4) (xs := Mk.all m5) tk fun hn5 => ?_
   rw [Mk.all_nil fun a ha => h5 a ha] at hn5
   refine Tr.take (A := blk b8 [.slice s1.a s1.n s1.c, .slice s2.a s2.n s2.c, .slice s3.a s3.n s3.c, .slice s4.a s4.n s4.c]) tk ?_
   refine en_st (b := b8) (off := 0) rfl tk (by simp) rfl ?_
   refine en_brt (by simp) ?_
   iterate 2
    refine en_call (law_err _) .nil ?_
    rintro x' M ⟨rfl, rfl⟩
    try simp only [lca, lna]
   refine en_brt rfl ?_
   refine en_ld (k := .slice) (b := b10) (off := 5) (x := sp) (by rw [fa_mk]) tk rfl ?_
   refine en_brt (by rw [n6']; rfl) ?_
   refine en_ld (k := .slice) (b := b8) (off := 3) (x := u4) (by rw [fa_mk]) tk rfl ?_
   refine en_brt (by rw [hn5]; rfl) ?_
   refine en_call (law_awake20) tks ?_
   rintro x' M ⟨rfl, rfl⟩
   try simp only [lca, lna]
   exact en_rets (x := true) rfl ⟨rfl, rfl⟩ tks ens
 ·intro X hX
  have hrz : ∀ a : Int, 0 < a → a ∈ ro → False := fun a ha h => by
   rw [hro] at h
   have := List.eq_of_mem_replicate h; omega
  refine en_need (by decide) (en_br (fun hq => ?_) (fun hq => ?_))
  ·have hq : q = 0 := by simpa using hq
   refine en_nn ?_
   refine en_ld (k := .ptr) (b := i.p) (off := 2) (x := some ⟨i.o, 0, none⟩) (by rw [fa_mk]) tk rfl ?_
   refine en_call (root_place i.o ro (by rw [hro]; rfl) 3 at0) tks ?_
   rintro x' M ⟨rfl, rfl⟩
   try simp only [lca, lna]
   rw [if_pos (show ((0 : Int) ≤ 3 ∧ (3 : Int) < 16) ∧ 0 ≤ at0 from ⟨by decide, by omega⟩)]
   refine en_nn ?_
   refine en_ld (k := .ptr) (b := i.p) (off := 1) (x := some ⟨i.h, 0, none⟩) (by rw [fa_mk]) tk rfl ?_
   refine en_call (han_drop i.h hok 512) tks ?_
   rintro x' M ⟨rfl, rfl⟩
   try simp only [lca, lna]
   refine Tr.perm (Takes.perm (M := i.A (RX 0 [[]] 0 S (Hn.dropS hs 512) (ro.set 3 at0) [] [] 0 0)) tks) (hX _ _ ⟨S, Hn.dropS hs 512, ro.set 3 at0, [], Chain.row l, rfl, b1.bo, Chain.row_as, fun o ho => by rw [Chain.row_mem ho], hlk b1.bo Chain.row_as (fun o ho => by rw [Chain.row_mem ho]) hch, w1, hd3.le (by omega), by rw [hro]; rfl, fun a ha => ?_, by rw [if_neg (by omega)]⟩)
   constructor
   ·rintro (⟨t, _, g⟩ | g)
    ·rw [hdz] at g; omega
    ·rcases List.mem_or_eq_of_mem_set g with g | g
     ·exact (hrz a ha g).elim
     ·exact ⟨by omega, by omega, g⟩
   ·rintro ⟨_, _, rfl⟩
    exact .inr (List.mem_set (by rw [hro]; decide) _)
  ·have hq0 : q ≠ 0 := by simpa using hq
   refine en_br (fun hq => ?_) (fun hq => ?_)
   ·have hq : q = 1 := by simpa using hq
    refine en_nn ?_
    refine en_ld (k := .ptr) (b := i.p) (off := 3) (x := some ⟨i.f, 0, none⟩) (by rw [fa_mk]) tk rfl ?_
    obtain ⟨g0, g1⟩ := b1.bo.final (o := Chain.bx (l.getD 0 0) 0 (if 0 + 1 < l.length then l.getD (0 + 1) 0 else 0)) (List.mem_of_getElem? (Chain.row_get (by omega))) (by show (2 : Int) ≠ 4; decide) rfl
    change (Ob.final S (l.getD 0 0)).1 = 0 at g0
    change Bo (Ob.final S (l.getD 0 0)).2 [] ((Chain.row l).map (Om.fi (l.getD 0 0))) at g1
    rw [hl0] at g0 g1
    have w2 := w1.await at0
    refine en_call (fin_await i.f i.b S [] b1.hw [] [] (by decide) at0) tks ?_
    rintro x' M ⟨rfl, rfl⟩
    try simp only [lca, lna]
    rw [if_pos g0] at w2
    rw [if_pos g0]
    refine en_nn ?_
    refine en_ld (k := .ptr) (b := i.p) (off := 1) (x := some ⟨i.h, 0, none⟩) (by rw [fa_mk]) tk rfl ?_
    refine en_call (han_drop i.h hok 512) tks ?_
    rintro x' M ⟨rfl, rfl⟩
    try simp only [lca, lna]
    have fk : ∀ o, (Om.fi at0 o).a = o.a ∧ (Om.fi at0 o).h.k = o.h.k ∧ (Om.fi at0 o).ws = o.ws := fun o => by unfold Om.fi; split <;> exact ⟨rfl, rfl, rfl⟩
    have e1 : ((Chain.row l).map (Om.fi at0)).map (·.a) = l := by
     rw [List.map_map]
     exact (List.map_congr_left fun o _ => (fk o).1).trans Chain.row_as
    have e2 : ∀ o ∈ (Chain.row l).map (Om.fi at0), o.h.k = 2 := fun o ho => by
     obtain ⟨o', ho', rfl⟩ := List.mem_map.mp ho
     rw [(fk o').2.1, Chain.row_mem ho']
    have e3 : ∀ j, j + 1 < l.length → ∃ o, ((Chain.row l).map (Om.fi at0))[j]? = some o ∧ l.getD (j + 1) 0 ∈ o.ws := fun j hj => by
     obtain ⟨o, ho, hm⟩ := hch j hj
     exact ⟨Om.fi at0 o, by rw [List.getElem?_map, ho]; rfl, by rw [(fk o).2.2]; exact hm⟩
    generalize (Ob.final S at0).2 = S2 at *
    refine Tr.perm (Takes.perm (M := i.A (RX 0 [[]] 0 S2 (Hn.dropS hs 512) ro ([] ++ [at0]) [] 0 0)) tks) (hX _ _ ⟨S2, Hn.dropS hs 512, ro, [] ++ [at0], _, rfl, g1, e1, e2, hlk g1 e1 e2 e3, w2, hd3.le (by omega), by rw [hro]; rfl, fun a ha => ?_, by rw [if_pos hq]; rfl⟩)
    constructor
    ·rintro (⟨t, _, g⟩ | g)
     ·rw [hdz] at g; omega
     ·exact (hrz a ha g).elim
    ·rintro ⟨g, _, _⟩; exact absurd hq g
   ·have hq1 : q ≠ 1 := by simpa using hq
    refine en_br (fun hq => ?_) (fun hq => ?_)
    ·have hq : q = 2 := by simpa using hq
     refine en_nn ?_
     refine en_ld (k := .ptr) (b := i.p) (off := 1) (x := some ⟨i.h, 0, none⟩) (by rw [fa_mk]) tk rfl ?_
     refine en_call (han_drop i.h hok 512) tks ?_
     rintro x' M ⟨rfl, rfl⟩
     try simp only [lca, lna]
     refine Tr.perm (Takes.perm (M := i.A (RX 0 [[]] 0 S (Hn.dropS hs 512) ro [] [] 0 0)) tks) (hX _ _ ⟨S, Hn.dropS hs 512, ro, [], Chain.row l, rfl, b1.bo, Chain.row_as, fun o ho => by rw [Chain.row_mem ho], hlk b1.bo Chain.row_as (fun o ho => by rw [Chain.row_mem ho]) hch, w1, hd3.le (by omega), by rw [hro]; rfl, fun a ha => ?_, by rw [if_neg hq1]⟩)
     constructor
     ·rintro (⟨t, _, g⟩ | g)
      ·rw [hdz] at g; omega
      ·exact (hrz a ha g).elim
     ·rintro ⟨_, g, _⟩; exact absurd hq g
    ·have hq2 : q ≠ 2 := by simpa using hq
     refine Tr.perm (Takes.perm (M := i.A (RX 0 [[]] 0 S hs ro [] [] 0 0)) tks) (hX _ _ ⟨S, hs, ro, [], Chain.row l, rfl, b1.bo, Chain.row_as, fun o ho => by rw [Chain.row_mem ho], hlk b1.bo Chain.row_as (fun o ho => by rw [Chain.row_mem ho]) hch, w1, h1.le (by omega), by rw [hro]; rfl, fun a ha => ?_, by rw [if_neg hq1]⟩)
     constructor
     ·rintro (⟨t, _, g⟩ | g)
      ·rw [r1] at g
       split at g
       ·exact ⟨hq1, hq2, g.symm⟩
       ·omega
      ·exact (hrz a ha g).elim
     ·rintro ⟨_, _, rfl⟩
      exact .inl ⟨0, by decide, by rw [r1, if_pos rfl]⟩
end Go.Proofs.YtdplphebjhfliaaGreat
