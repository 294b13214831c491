/- The law GcRings. -/
import Derived.Test.YtdplphebjhfliaaGreatGsL20b
import Derived.Test.YtdplphebjhfliaaGreatGsTxGcRings
set_option linter.unusedSimpArgs false
set_option linter.unusedVariables false
namespace Go.Proofs.YtdplphebjhfliaaGreat
open Go Go.Gl
variable {ρ0 ρ : FR} {L L' : List Asn} {Post : Value → List Asn → Prop} {T : Tree}
namespace Ring2
def bx (a : Int) (j : Nat) (x : Int) : Ob1 := ⟨a, ⟨2, 0, 2, false⟩, [0, 0].set (j % 2) x⟩
theorem bx0 (a : Int) (j : Nat) : bx a j 0 = ⟨a, ⟨2, 0, 2, false⟩, [0, 0]⟩ := by
 unfold bx
 rcases Nat.mod_two_eq_zero_or_one j with h | h <;> rw [h] <;> rfl
theorem kids (a : Int) (j : Nat) (x b : Int) : b ∈ Bx.kidsO (bx a j x) ↔ (b = x ∨ b = 0) := by
 unfold Bx.kidsO bx
 dsimp only
 rw [if_pos rfl]
 rcases Nat.mod_two_eq_zero_or_one j with h | h <;> rw [h]
 ·show b ∈ [x, 0] ↔ _
  simp
 ·show b ∈ [0, x] ↔ _
  simp [or_comm]
def part (l : List Int) (n : Nat) : List Ob1 := (List.range l.length).map fun j => bx (l.getD j 0) j (if j < n then l.getD ((j + 1) % l.length) 0 else 0)
theorem part_len {l : List Int} {n : Nat} : (part l n).length = l.length := by simp [part]
theorem part_get {l : List Int} {n j : Nat} (hj : j < l.length) : (part l n)[j]? = some (bx (l.getD j 0) j (if j < n then l.getD ((j + 1) % l.length) 0 else 0)) := by
 unfold part; rw [List.getElem?_map, List.getElem?_range hj]; rfl
theorem part0 {l : List Int} : part l 0 = l.map fun a => ⟨a, ⟨2, 0, 2, false⟩, [0, 0]⟩ := by
 apply List.ext_getElem?
 intro j
 by_cases hj : j < l.length
 ·rw [part_get hj, if_neg (by omega), bx0, List.getElem?_map, List.getD_eq_getElem?_getD, List.getElem?_eq_getElem hj]; rfl
 ·rw [List.getElem?_eq_none (by rw [part_len]; omega), List.getElem?_eq_none (by simp; omega)]
theorem part_set {l : List Int} {n : Nat} (hn : n < l.length) : (part l n).set n (bx (l.getD n 0) n (l.getD ((n + 1) % l.length) 0)) = part l (n + 1) := by
 apply List.ext_getElem?
 intro j
 rw [List.getElem?_set]
 by_cases hj : j < l.length
 ·rw [part_get hj]
  by_cases e : n = j
  ·subst e
   rw [if_pos rfl, if_pos (by rw [part_len]; exact hn), part_get hn, if_pos (by omega)]
  ·rw [if_neg e, part_get hj]
   by_cases h : j < n
   ·rw [if_pos h, if_pos (by omega)]
   ·rw [if_neg h, if_neg (by omega)]
 ·rw [List.getElem?_eq_none (l := part l (n + 1)) (by rw [part_len]; omega), if_neg (by omega), List.getElem?_eq_none (by rw [part_len]; omega)]
theorem part_mem {l : List Int} {n : Nat} {o : Ob1} (h : o ∈ part l n) : ∃ j, j < l.length ∧ o = bx (l.getD j 0) j (if j < n then l.getD ((j + 1) % l.length) 0 else 0) := by
 unfold part at h
 obtain ⟨j, hj, rfl⟩ := List.mem_map.mp h
 exact ⟨j, List.mem_range.mp hj, rfl⟩
theorem part_as {l : List Int} {n : Nat} : (part l n).map (·.a) = l := by
 apply List.ext_getElem?
 intro j
 rw [List.getElem?_map]
 by_cases hj : j < l.length
 ·rw [part_get hj, Option.map_some, List.getD_eq_getElem?_getD, List.getElem?_eq_getElem hj]; rfl
 ·rw [List.getElem?_eq_none (by rw [part_len]; omega), List.getElem?_eq_none (by omega)]; rfl
variable {S : Spc} {l : List Int}
theorem obj (H : Bo S [] (part l l.length)) {a : Int} : Mk.obj S a ↔ a ∈ l := by
 rw [H.obj]
 constructor
 ·rintro ⟨o, ho, rfl⟩
  rw [← part_as (l := l) (n := l.length)]; exact List.mem_map.mpr ⟨o, ho, rfl⟩
 ·intro h
  rw [← part_as (l := l) (n := l.length)] at h
  obtain ⟨o, ho, e⟩ := List.mem_map.mp h
  exact ⟨o, ho, e⟩
theorem getD_in {j : Nat} (hj : j < l.length) : l.getD j 0 ∈ l := by rw [List.getD_eq_getElem?_getD, List.getElem?_eq_getElem hj]; exact List.getElem_mem hj
theorem reach (H : Bo S [] (part l l.length)) {j : Nat} (hj : j < l.length) {R : List Int} (h : Mk.Rch S [] R (l.getD j 0)) : ∀ d, Mk.Rch S [] R (l.getD ((j + d) % l.length) 0)
 | 0 => by rw [Nat.add_zero, Nat.mod_eq_of_lt hj]; exact h
 | d + 1 => by
  have ih := reach H hj h d
  have hlt : (j + d) % l.length < l.length := Nat.mod_lt _ (by omega)
  have hk := H.kids (List.mem_of_getElem? (part_get (n := l.length) hlt)) (show (2 : Int) ≠ 1 by decide)
  rw [if_pos hlt, Nat.mod_add_mod] at hk
  refine .step ih ?_ ((obj H).mpr (getD_in (Nat.mod_lt _ (by omega))))
  change Mk.kids S [] (l.getD ((j + d) % l.length) 0) = _ at hk
  rw [hk, kids]
  exact .inl (by rw [Nat.add_assoc])
theorem reach_all (H : Bo S [] (part l l.length)) {a b : Int} (ha : a ∈ l) (hb : b ∈ l) {R : List Int} (h : Mk.Rch S [] R a) : Mk.Rch S [] R b := by
 obtain ⟨j, hj, rfl⟩ := List.mem_iff_getElem.mp ha
 obtain ⟨t, ht, rfl⟩ := List.mem_iff_getElem.mp hb
 have e1 : l.getD j 0 = l[j] := by rw [List.getD_eq_getElem?_getD, List.getElem?_eq_getElem hj]; rfl
 have e2 : l.getD t 0 = l[t] := by rw [List.getD_eq_getElem?_getD, List.getElem?_eq_getElem ht]; rfl
 rw [← e1] at h
 have := reach H hj h (t + l.length - j)
 rw [show j + (t + l.length - j) = t + l.length by omega, Nat.add_mod_right, Nat.mod_eq_of_lt ht, e2] at this
 exact this
end Ring2
theorem roots_held {rate ser ck rn : Int} {S : Spc} {hs : List Hn.Slot} {wa : List Int} (hl : hs.length = 512) {a : Int} (ha : 0 < a) : a ∈ (RX rate [] ser S hs (List.replicate 16 0) wa [] ck rn).roots ↔ ∃ t, t < 512 ∧ (Hn.at' hs t).2 = a := by
 unfold Rt.roots
 rw [Mg.mem_merge]
 constructor
 ·rintro ⟨_, r, hr, h⟩
  simp only [List.mem_cons, List.not_mem_nil, or_false] at hr
  rcases hr with rfl | rfl | rfl | rfl
  ·exact ((Hn.mem_all hl).mp h).2
  ·have := List.eq_of_mem_replicate h; omega
  ·cases h
  ·cases h
 ·intro h
  exact ⟨ha, _, by simp, (Hn.mem_all hl).mpr ⟨by omega, h⟩⟩
theorem law_gcrings (n held : Int) (hold : Bool) (hn : 0 ≤ n ∧ n < 256) (hh : 0 ≤ held ∧ held < 256) : Gl.Spec ρ Tryz.prog 4 [.int .u8 n, .int .u8 held, .bool hold] [] RB fun r M => r = true ∧ M = [] := by
 refine Gl.Spec.of (fun Q w h => F.gloaminglaw20.GcRings.calls n held hold h) fun R => ?_
 unfold F.gloaminglaw20.GcRings
 try simp only [lca, lna]
 refine en_call (made60 0 0 (by decide) (by decide)) tks ?_
 rintro _ _ ⟨i, S0, hs0, ro, rfl, rfl, b0, w0, h0, r0, hro⟩
 try simp only [lca, lna]
 refine en_brf rfl (en_need (by decide) ?_)
 rw [wrap64 (n := n) (by omega) (by omega), Int.tmod_eq_emod_of_nonneg hn.1, wrap64 (n := 1 + n % 30) (by omega) (by omega), wrap64 (n := held) (by omega) (by omega), zcOut]
 obtain ⟨K, hK, hK1, hK2⟩ : ∃ K : Nat, 1 + n % 30 = K ∧ 1 ≤ K ∧ K ≤ 30 := ⟨(1 + n % 30).toNat, by omega, by omega, by omega⟩
 rw [hK]
 clear hK
 refine Tr.nilSL 1 (Tr.nilSL 1 ?_)
 refine en_lp (I := fun m u M => ∃ (j : Nat) (S : Spc) (hs : List Hn.Slot) (l : List Int) (z1 z2 : Slc), j ≤ K ∧ m = K - j ∧ u = (z1, z2, (j : Int), ()) ∧ l.length = j ∧ Bx S [] 60 (l.map fun a => ⟨a, ⟨2, 0, 2, false⟩, [0, 0]⟩) ∧ Wl S [] [] 0 [] [] ∧ HI 0 hs ∧ (∀ t, Hn.at' hs t = if t < l.length then (0, l.getD t 0) else (0, 0)) ∧
  M = [SLc z1 1 (l.map i64), SLc z2 1 (((List.range j).map fun t : Nat => (t : Int) + 512).map i64)] ++ i.A (RX 0 [] 0 S hs ro [] [] 0 0) ++ R) K ⟨0, _, _, [], _, _, by omega, rfl, rfl, rfl, b0, w0, h0, r0, rfl⟩ ?_
 clear b0 w0 h0 r0
 rintro m _ _ ⟨j, S, hs, l, z1, z2, hj, rfl, rfl, hlj, b1, w1, h1, r1, rfl⟩ X hX
 try simp only [lca, lna]
 refine en_br (fun hc => ?_) (fun hc => ?_)
 ·have hj' : (j : Int) < K := of_decide_eq_true hc
  have hf : Hn.free hs = some j := by
   refine Hn.free_is (by rw [h1.len]; omega) (by rw [r1, if_neg (by omega)]) fun t ht => ?_
   rw [r1, if_pos (by omega)]
   have hm : l.getD t 0 ∈ l := Ring2.getD_in (by omega)
   exact b1.bo.ne (o := ⟨l.getD t 0, ⟨2, 0, 2, false⟩, [0, 0]⟩) (List.mem_map.mpr ⟨_, hm, rfl⟩)
  have rj := r1 j
  rw [if_neg (by omega)] at rj
  have htold : Hn.told hs j = (j : Int) + 512 := by unfold Hn.told; rw [rj]; rfl
  refine en_call (box60 i b1 w1 h1 (by decide) (by simp; omega) hf 2 (by decide) (by decide)) tks ?_
  rintro _ _ ⟨a, S2, hs2, rfl, rfl, ha, b2, w2, h2, r2⟩
  try simp only [lca, lna]
  refine en_brf (beq_eq_false_iff_ne.mpr (Int.ne_of_gt ha)) ?_
  refine en_appI (s := z1) (xs := l) appInt tk (by omega) fun r6 h6 => ?_
  refine en_appI (s := z2) (xs := (List.range j).map fun t : Nat => (t : Int) + 512) appInt tk (by simp; omega) fun r8 h8 => ?_
  rw [wrap64 (n := (j : Int) + 1) (by omega) (by omega)]
  have eh : ((List.range j).map fun t : Nat => (t : Int) + 512) ++ [Hn.told hs j] = (List.range (j + 1)).map fun t : Nat => (t : Int) + 512 := by
   rw [List.range_succ, List.map_append, htold]; rfl
  rw [eh]
  exact Tr.perm (Takes.perm (M := [SLc r6 1 ((l ++ [a]).map i64), SLc r8 1 (((List.range (j + 1)).map fun t : Nat => (t : Int) + 512).map i64)] ++ i.A (RX 0 [] 0 S2 hs2 ro [] [] 0 0)) tks)
   (hX (K - (j + 1)) _ _ (by omega) ⟨j + 1, S2, hs2, l ++ [a], r6, r8, by omega, rfl, rfl, by simp; omega, by rw [List.map_append]; exact b2, w2, h2, fun t => by rw [r2, rj, r1, ← hlj]; exact Hn.row_get, rfl⟩)
 have hjK : j = K := by have : ¬ (j : Int) < K := of_decide_eq_false hc; omega
 subst hjK
 clear hX hc hj
 have hnd := b1.nodup
 rw [← Ring2.part0, Ring2.part_as] at hnd
 rw [← Ring2.part0] at b1
 refine Tr.keepSL (s := z1) tk fun ρ1 hle1 rol => ?_
 refine Tr.keepSL (s := z2) tk fun ρ2 hle2 roh => ?_
 replace rol := rol.le hle2
 have hln := rol.len
 have hhn := roh.len
 rw [List.length_map, List.length_range] at hhn
 refine en_lp (I := fun m u M => ∃ (t : Nat) (S : Spc), t ≤ j ∧ m = j - t ∧ u = ((t : Int), ()) ∧ Bx S [] 60 (Ring2.part l t) ∧ Wl S [] [] 0 [] [] ∧ M = i.A (RX 0 [] 0 S hs ro [] [] 0 0) ++ R) j ⟨0, S, by omega, rfl, rfl, b1, w1, rfl⟩ ?_
 clear b1 w1
 rintro m _ _ ⟨t, S1, ht, rfl, rfl, b1, w1, rfl⟩ X hX
 try simp only [lca, lna]
 refine en_br (fun hc => ?_) (fun hc => ?_)
 ·have ht' : (t : Int) < j := of_decide_eq_true hc
  refine en_drw ?_
  refine en_nn ?_
  refine en_ld (k := .ptr) (b := i.p) (off := 3) (x := some ⟨i.f, 0, none⟩) (by rw [fa_mk]) tk rfl ?_
  refine en_nn (fin_heap (f := i.f) (hp := i.b) (by rw [fa_mk]) tk ?_)
  refine en_getRo rol (by omega) (by omega) ?_
  refine en_need (by decide) (en_need (by omega) ?_)
  rw [wrap64 (n := (t : Int) + 1) (by omega) (by omega), ix_mod (n := j) (by omega) (by omega)]
  have hlt : ((t : Int) + 1).toNat % j < j := Nat.mod_lt _ (by omega)
  refine en_getRo rol (by omega) (by omega) ?_
  rw [Int.toNat_natCast, Int.toNat_natCast, show ((t : Int) + 1).toNat = t + 1 by omega]
  have e2 : Int.tmod (t : Int) 2 = ((t % 2 : Nat) : Int) := by rw [Int.tmod_eq_emod_of_nonneg (by omega)]; omega
  rw [e2]
  obtain ⟨p1, p2⟩ := b1.put (i := t) (Ring2.part_get (n := t) (by omega)) (k := t % 2) (show ((t % 2 : Nat) : Int) < 2 by omega) (l.getD ((t + 1) % j) 0)
  have hnr : Qu.isR S1 (l.getD t 0) = false := by
   cases e : Qu.isR S1 (l.getD t 0) with
   | false => rfl
   | true =>
    obtain ⟨o, ho, _, hk⟩ := b1.bo.isR.mp e
    obtain ⟨_, _, rfl⟩ := Ring2.part_mem ho
    cases hk
  refine en_call (object_put i.b S1 [] b1.hw (l.getD t 0) ((t % 2 : Nat) : Int) (l.getD ((t + 1) % j) 0)) tks ?_
  rintro x' M ⟨rfl, rfl⟩
  try simp only [lca, lna]
  have eS : (Ring2.part l t).set t ⟨l.getD t 0, ⟨2, 0, 2, false⟩, ((Ring2.bx (l.getD t 0) t (if t < t then l.getD ((t + 1) % l.length) 0 else 0)).ws).set (t % 2) (l.getD ((t + 1) % j) 0)⟩ = Ring2.part l (t + 1) := by
   rw [if_neg (by omega), ← Ring2.part_set (by omega), hlj]
   congr 1
   unfold Ring2.bx
   dsimp only
   rw [List.set_set]
  have w2 := w1.put (i := ((t % 2 : Nat) : Int)) (x := l.getD ((t + 1) % j) 0) (.inl hnr)
  have b2 : Bx (Ob.put S1 (l.getD t 0) ((t % 2 : Nat) : Int) (l.getD ((t + 1) % j) 0)).2 [] 60 (Ring2.part l (t + 1)) := eS ▸ p2
  generalize (Ob.put S1 (l.getD t 0) ((t % 2 : Nat) : Int) (l.getD ((t + 1) % j) 0)).2 = S2 at *
  exact Tr.perm (Takes.perm (M := i.A (RX 0 [] 0 S2 hs ro [] [] 0 0)) tks) (hX (j - (t + 1)) _ _ (by omega) ⟨t + 1, S2, by omega, rfl, rfl, b2, w2, rfl⟩)
 have htj : t = j := by have : ¬ (t : Int) < j := of_decide_eq_false hc; omega
 subst htj
 clear hX hc ht
 refine en_need (by omega) ?_
 rw [ix_mod (n := t) hh.1 (by omega)]
 have hJ : held.toNat % t < t := Nat.mod_lt _ (by omega)
 generalize held.toNat % t = J at *
 refine en_lp (I := fun m u M => ∃ (d : Nat) (hs : List Hn.Slot), d ≤ t ∧ m = t - d ∧ u = ((d : Int), ()) ∧ HI d hs ∧ (∀ s, Hn.at' hs s = if s < t then (if s < d ∧ (s ≠ J ∨ hold = false) then (1, 0) else (0, l.getD s 0)) else (0, 0)) ∧ M = i.A (RX 0 [] 0 S1 hs ro [] [] 0 0) ++ R) t
  ⟨0, hs, by omega, rfl, rfl, h1, fun s => by rw [r1, hlj]; simp, rfl⟩ ?_
 clear h1 r1 hs
 rintro m _ _ ⟨d, hs, hd, rfl, rfl, h1, hat, rfl⟩ X hX
 try simp only [lca, lna]
 refine en_br (fun hc => ?_) (fun hc => ?_)
 ·have hd' : (d : Int) < t := of_decide_eq_true hc
  have hdl : l.getD d 0 ∈ l := Ring2.getD_in (by omega)
  have hd0 : l.getD d 0 ≠ 0 := by
   obtain ⟨o, ho, e⟩ := b1.bo.obj.mp ((Ring2.obj (by rw [hlj]; exact b1.bo)).mpr hdl)
   exact e ▸ b1.bo.ne ho
  have had := hat d
  rw [if_pos (by omega), if_neg (by omega)] at had
  have htold : Hn.told hs d = (d : Int) + 512 := by unfold Hn.told; rw [had]; rfl
  obtain ⟨q1, q2⟩ := Hn.drop_is (h1.ok (by omega)) (i := d) (by omega) (by rw [had]; exact hd0)
  rw [had] at q2
  have go : (J = d → hold = false) → Tr ρ ρ2 (i.A (RX 0 [] 0 S1 hs ro [] [] 0 0) ++ R) (drw <| nn (some ⟨i.p, 0, none⟩) fun a8 => ld (.l .ptr) (fa a8 1) fun x9 => ix z2.a z2.n (d : Int) 1 fun a10 => ld (.l (.int .i64)) a10 fun x11 => call Tryz.prog 26 [.pointer x9, .int .i64 x11] (.one (.l (.int .i64))) fun r12 => X (IntKind.wrap .i64 ((d : Int) + 1), ())) (SP RB (fun r M => r = true ∧ M = []) R) := fun hJd => by
   refine en_drw ?_
   refine en_nn ?_
   refine en_ld (k := .ptr) (b := i.p) (off := 1) (x := some ⟨i.h, 0, none⟩) (by rw [fa_mk]) tk rfl ?_
   refine en_getRo roh (by omega) (by rw [List.length_map, List.length_range]; omega) ?_
   have eg : List.getD ((List.range t).map fun t : Nat => (t : Int) + 512) (d : Int).toNat 0 = (d : Int) + 512 := by
    rw [Int.toNat_natCast, List.getD_eq_getElem?_getD, List.getElem?_map, List.getElem?_range (by omega)]; rfl
   rw [eg, ← htold]
   refine en_call (han_drop i.h (h1.ok (by omega)) (Hn.told hs d)) tks ?_
   rintro x' M ⟨rfl, rfl⟩
   try simp only [lca, lna]
   rw [wrap64 (n := (d : Int) + 1) (by omega) (by omega)]
   have h2 := h1.drop (by omega) (Hn.told hs d)
   generalize Hn.dropS hs (Hn.told hs d) = hs2 at *
   refine Tr.perm (Takes.perm (M := i.A (RX 0 [] 0 S1 hs2 ro [] [] 0 0)) tks) (hX (t - (d + 1)) _ _ (by omega) ⟨d + 1, hs2, by omega, rfl, rfl, h2, fun s => ?_, rfl⟩)
   rw [q2]
   by_cases e : s = d
   ·subst e
    have hor : s ≠ J ∨ hold = false := by
     by_cases eJ : s = J
     ·exact .inr (hJd eJ.symm)
     ·exact .inl eJ
    rw [if_pos rfl, if_pos (by omega), if_pos ⟨by omega, hor⟩]; rfl
   ·rw [if_neg e, hat]
    by_cases hs1 : s < t
    ·rw [if_pos hs1, if_pos hs1]
     by_cases h3 : s < d ∧ (s ≠ J ∨ hold = false)
     ·rw [if_pos h3, if_pos ⟨by omega, h3.2⟩]
     ·rw [if_neg h3, if_neg (fun g => h3 ⟨by omega, g.2⟩)]
    ·rw [if_neg hs1, if_neg hs1]
  refine en_br (fun h2 => ?_) (fun h2 => ?_)
  ·have h2 : ¬ (d : Int) = J := by simpa using h2
   exact go fun e => absurd (by omega) h2
  ·have h2 : (d : Int) = J := by simpa using h2
   refine en_br (fun h3 => ?_) (fun h3 => ?_)
   ·have h3 : hold = false := by simpa using h3
    exact go fun _ => h3
   ·have h3 : hold = true := by simpa using h3
    rw [wrap64 (n := (d : Int) + 1) (by omega) (by omega)]
    refine hX (t - (d + 1)) _ _ (by omega) ⟨d + 1, hs, by omega, rfl, rfl, h1.le (by omega), fun s => ?_, rfl⟩
    rw [hat]
    by_cases hs1 : s < t
    ·rw [if_pos hs1, if_pos hs1]
     by_cases h4 : s < d ∧ (s ≠ J ∨ hold = false)
     ·rw [if_pos h4, if_pos ⟨by omega, h4.2⟩]
     ·rw [if_neg h4, if_neg]
      rintro ⟨g1, g2⟩
      by_cases e : s = d
      ·rcases g2 with g | g
       ·exact g (by omega)
       ·rw [h3] at g; cases g
      ·exact h4 ⟨by omega, g2⟩
    ·rw [if_neg hs1, if_neg hs1]
 have hdt : d = t := by have : ¬ (d : Int) < t := of_decide_eq_false hc; omega
 subst hdt
 clear hX hc hd
 have inv : (RX 0 [] 0 S1 hs ro [] [] 0 0).Inv d := inv_of w1 h1 (by rw [hro]; rfl) ⟨Int.le_refl 0, by show (0 : Int) < _; decide⟩ ⟨Int.le_refl 0, by show (0 : Int) ≤ d; omega⟩ ⟨Int.le_refl 0, by show (0 : Int) ≤ d; omega⟩ ⟨Int.le_refl 0, by show (0 : Int) < _; decide⟩ rfl
 refine en_call (gc_collect i _ (inv.ok2 (by omega)) false) tks ?_
 rintro _ _ ⟨y1, y2, s1, s2, s3, s4, l9, m2, m3, hC, rfl, rfl⟩
 try simp only [lca, lna]
 have inv2 := inv.after hC
 have bo : Bo S1 [] (Ring2.part l d) := b1.bo
 have hkk : ∀ o ∈ Ring2.part l d, o.h.k ≠ 4 := fun o ho => by
  obtain ⟨_, _, rfl⟩ := Ring2.part_mem ho
  show (2 : Int) ≠ 4
  decide
 obtain ⟨c1, c2⟩ := coll_norefs bo hkk hC
 have c3 : ∀ a, Sp.has m3 a = true ↔ Mk.Rch S1 [] (RX 0 [] 0 S1 hs ro [] [] 0 0).roots a := fun a => by
  rw [hC.has3, c2]
  exact ⟨fun g => g.elim id fun g => absurd g Mk.rch_nil, .inl⟩
 change clrOf S1 m2 m3 l9 = [] at c1
 have cp : pendOf S1 m2 [] = [] := rfl
 have cpu : putOf S1 m3 [] = [] := rfl
 change (Rt.after (RX 0 [] 0 S1 hs ro [] [] 0 0) (clrOf S1 m2 m3 l9) (putOf S1 m3 (clrOf S1 m2 m3 l9)) (pendOf S1 m2 []) (Mk.all m3)).Inv _ at inv2
 rw [c1, cp, cpu] at inv2
 have key : ∃ (os : List Ob1), (Mk.all m3).length = (if hold then d else 0) ∧ Bo (Sw.sweep S1 (Mk.all m3)) [] os ∧ os.length = (if hold then d else 0) := by
  have hmem : ∀ a, Mk.obj S1 a → (a ∈ (RX 0 [] 0 S1 hs ro [] [] 0 0).roots ↔ (hold = true ∧ a = l.getD J 0)) := fun a ho => by
   obtain ⟨o, hoo, e⟩ := bo.obj.mp ho
   have ha := e ▸ bo.pos hoo
   rw [hro, roots_held h1.len ha]
   constructor
   ·rintro ⟨s, hs5, e⟩
    rw [hat] at e
    split at e
    ·split at e
     ·dsimp only at e; omega
     ·rename_i g1 g2
      dsimp only at e
      have g3 : ¬ (s ≠ J ∨ hold = false) := fun g => g2 ⟨g1, g⟩
      have g4 : s = J := Decidable.byContradiction fun g => g3 (.inl g)
      refine ⟨by simpa using fun g => g3 (.inr g), ?_⟩
      rw [← g4]; exact e.symm
    ·dsimp only at e; omega
   ·rintro ⟨g1, rfl⟩
    refine ⟨J, by omega, ?_⟩
    rw [hat, if_pos hJ, if_neg]
    rintro ⟨_, g | g⟩
    ·exact g rfl
    ·rw [g1] at g; cases g
  cases hold with
  | true =>
   have h3 : ∀ a, Sp.has m3 a = true ↔ a ∈ (Ring2.part l d).map (·.a) := fun a => by
    rw [c3, rch_iff (R' := [l.getD J 0]) (fun a ho => by rw [hmem a ho]; simp), Ring2.part_as]
    have bo' : Bo S1 [] (Ring2.part l l.length) := by rw [hlj]; exact bo
    have hJl : l.getD J 0 ∈ l := Ring2.getD_in (by omega)
    exact ⟨fun g => (Ring2.obj bo').mp g.obj, fun g => Ring2.reach_all bo' hJl g (.root (by simp) ((Ring2.obj bo').mpr hJl))⟩
   obtain ⟨t1, t2, t3⟩ := live_all bo h3
   rw [Ring2.part_len, hlj] at t1
   exact ⟨_, t1, t3, by rw [Ring2.part_len, hlj]; rfl⟩
  | false =>
   have h3 : ∀ a, ¬ Sp.has m3 a = true := fun a => by
    rw [c3, rch_iff (R' := []) (fun a ho => by rw [hmem a ho]; simp)]
    exact Mk.rch_nil
   obtain ⟨t1, t2⟩ := live_none bo h3
   rw [t1]
   exact ⟨[], rfl, t2, rfl⟩
 obtain ⟨os, k1, k2, k3⟩ := key
 rw [c1, cp, cpu]
 refine Tr.nlen (s := s4) (xs := Mk.all m3) tk fun hn4 => ?_
 refine en_nw fun b9 => ?_
 refine en_st (b := b9) (off := 0) rfl tk (by simp) rfl ?_
 have hview := gc_view (ρ := ρ2) i _ (inv2.ok (by omega))
 refine en_br (fun hb => ?_) (fun hb => ?_)
 ·have hb : hold = true := hb
  rw [if_pos hb] at k1 k3
  iterate 1
   refine en_call (law_err _) .nil ?_
   rintro x' M ⟨rfl, rfl⟩
   try simp only [lca, lna]
  refine en_brt rfl ?_
  refine en_ld (k := .slice) (b := b9) (off := 3) (x := s4) (by rw [fa_mk]) tk rfl ?_
  refine en_brt (by rw [hn4, k1]; simp) ?_
  refine en_call hview tks ?_
  rintro _ _ ⟨so, sh, sr, sq, sf, sp, lv, rfl, ⟨n1, n2, n3, n4, n5, n6⟩, hl, hly, rfl⟩
  try simp only [lca, lna]
  have n1' : so.n = d := by rw [n1]; exact (k2.objs.length_eq).trans k3
  refine en_brt (by rw [n1']; simp) ?_
  refine en_call (law_awake20) tks ?_
  rintro x' M ⟨rfl, rfl⟩
  try simp only [lca, lna]
  exact en_rets (x := true) rfl ⟨rfl, rfl⟩ tks ens
 ·have hb : hold = false := hb
  rw [if_neg (by simp [hb])] at k1 k3
  iterate 1
   refine en_call (law_err _) .nil ?_
   rintro x' M ⟨rfl, rfl⟩
   try simp only [lca, lna]
  refine en_brt rfl ?_
  refine en_ld (k := .slice) (b := b9) (off := 3) (x := s4) (by rw [fa_mk]) tk rfl ?_
  refine en_brt (by rw [hn4, k1]; rfl) ?_
  refine en_call hview tks ?_
  rintro _ _ ⟨so, sh, sr, sq, sf, sp, lv, rfl, ⟨n1, n2, n3, n4, n5, n6⟩, hl, hly, rfl⟩
  try simp only [lca, lna]
  have n1' : so.n = 0 := by rw [n1]; exact (k2.objs.length_eq).trans k3
  refine en_brt (by rw [n1']; rfl) ?_
  refine en_call (law_awake20) tks ?_
  rintro x' M ⟨rfl, rfl⟩
  try simp only [lca, lna]
  exact en_rets (x := true) rfl ⟨rfl, rfl⟩ tks ens
end Go.Proofs.YtdplphebjhfliaaGreat
