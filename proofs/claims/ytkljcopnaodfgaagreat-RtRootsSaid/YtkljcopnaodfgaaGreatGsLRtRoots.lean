/- The law RtRoots. -/
import Derived.Test.YtkljcopnaodfgaaGreatGsRtB
import Derived.Test.YtkljcopnaodfgaaGreatGsTxRtRoots
set_option linter.unusedSimpArgs false
set_option linter.unusedVariables false
namespace Go.Proofs.YtkljcopnaodfgaaGreat
open Go Go.Gl
variable {ρ0 ρ : FR} {L L' : List Asn} {Post : Value → List Asn → Prop} {T : Tree}
theorem z_collectD {cs : List Cls} {rows : List (List Int)} {ser : Int} {S : Spc} {l : List Hn.Slot} {ro : List Int} {ck rn : Int} {os : List Ob1} (H : Bo S cs os) (hk : ∀ o ∈ os, o.h.k = 3) {x' : Rt} {all : Bool} (h : (RZ cs rows ser S l ro [] [] ck rn).CollR x' all) :
  ∃ S', x' = RZ cs rows ser S' l ro [] [] ck (rn + 1) ∧ Bo S' cs (os.filter fun o => decide (o.a ∈ (RZ cs rows ser S l ro [] [] ck rn).roots)) := by
 obtain ⟨z1, z2, l', m2, m3, hC, rfl⟩ := h
 obtain ⟨c1, c2⟩ := coll_norefs H (fun o ho => by rw [hk o ho]; decide) hC
 refine ⟨Sw.sweep S (Mk.all m3), ?_, ?_⟩
 ·rw [show clrOf (RZ cs rows ser S l ro [] [] ck rn).S m2 m3 l' = [] from c1]; rfl
 ·have hz : ∀ a, Mk.obj S a → ∀ b ∈ Mk.kids S cs a, ¬ Mk.obj S b := fun a ha b hb => by
   obtain ⟨o, ho, _, hb⟩ := H.kid_in (fun o ho => by rw [hk o ho]; decide) ha hb
   unfold Bx.kidsO at hb
   rw [hk o ho, if_neg (by decide), if_neg (by decide)] at hb
   cases hb
  have h3 : ∀ a, Sp.has m3 a = true ↔ (a ∈ (RZ cs rows ser S l ro [] [] ck rn).roots ∧ Mk.obj S a) := fun a => by
   rw [hC.has3, c2, rch_flat2 hz]
   exact ⟨fun g => g.elim id fun g => absurd g Mk.rch_nil, .inl⟩
  have := H.sweep (Mk.all m3)
  have e : (os.filter fun o => decide (o.a ∈ Mk.all m3)) = os.filter fun o => decide (o.a ∈ (RZ cs rows ser S l ro [] [] ck rn).roots) := List.filter_congr fun o ho => by
   rw [decide_eq_decide, Mk.mem_all, h3]
   exact ⟨fun g => g.1, fun g => ⟨g, H.obj.mpr ⟨o, ho, rfl⟩⟩⟩
  rw [e] at this
  exact this
theorem z_roots {cs : List Cls} {rows : List (List Int)} {ser : Int} {S : Spc} {l : List Hn.Slot} {ro pe wa : List Int} {ck rn : Int} (hl : l.length ≤ 512) {a : Int} (ha : 0 < a) : a ∈ (RZ cs rows ser S l ro wa pe ck rn).roots ↔ ((∃ e ∈ l, e.2 = a) ∨ a ∈ ro ∨ (∃ r ∈ rows, a ∈ r.take 1) ∨ a ∈ pe) := by
 rw [mem_roots (x := RZ cs rows ser S l ro wa pe ck rn) (Hn.hs_len hl) ha]
 have : (∃ t, t < 512 ∧ (Hn.at' (Hn.Hs l) t).2 = a) ↔ ∃ e ∈ l, e.2 = a := by
  constructor
  ·rintro ⟨t, _, h2⟩
   rw [Hn.hs_at, List.getD_eq_getElem?_getD] at h2
   cases hg : l[t]? with
   | none => rw [hg] at h2; change (0 : Int) = a at h2; omega
   | some e => rw [hg] at h2; exact ⟨e, List.mem_of_getElem? hg, h2⟩
  ·rintro ⟨e, he, rfl⟩
   obtain ⟨t, ht, rfl⟩ := List.mem_iff_getElem.mp he
   exact ⟨t, by omega, by rw [Hn.hs_at, List.getD_eq_getElem?_getD, List.getElem?_eq_getElem ht]; rfl⟩
 show ((∃ t, t < 512 ∧ (Hn.at' (Hn.Hs l) t).2 = a) ∨ _) ↔ _
 rw [this]
theorem z_drop {cs : List Cls} {rows : List (List Int)} {ser : Int} {S : Spc} {l : List Hn.Slot} {ro pe wa : List Int} {ck rn : Int} {j : Nat} {t a h : Int} (hj : l[j]? = some (t, a)) (ha : a ≠ 0) (ht : 0 ≤ t) (hl : l.length ≤ 512) (hh : h = (j : Int) + 512 * (t + 1)) :
  Rx.drop (RZ cs rows ser S l ro wa pe ck rn) h = ((0, 0), RZ cs rows ser S (l.set j (t + 1, 0)) ro wa pe ck rn) := by
 obtain ⟨h1, h2⟩ := Hn.hs_drop hj ha ht hl hh
 unfold Rx.drop
 show ((0, Hn.dropE (Hn.Hs l) h), ({ RZ cs rows ser S l ro wa pe ck rn with hs := Hn.dropS (Hn.Hs l) h } : Rt)) = _
 rw [h1, h2]
theorem z_root {cs : List Cls} {rows : List (List Int)} {ser : Int} {S : Spc} {l : List Hn.Slot} {ro pe wa : List Int} {ck rn k h a : Int} (hk : 0 ≤ k ∧ k < 16) (ha : 0 ≤ a) (hh : (h = 0 ∧ a = 0) ∨ (h ≠ 0 ∧ Hn.held (Hn.Hs l) h = (a, 0))) :
  Rx.root (RZ cs rows ser S l ro wa pe ck rn) k h = ((0, 0), RZ cs rows ser S l (ro.set k.toNat a) wa pe ck rn) := by
 have e : ∀ f : Int → Ans2, Rx.byN (RZ cs rows ser S l ro wa pe ck rn) h f = f a := fun f => by
  rcases hh with ⟨rfl, rfl⟩ | ⟨h1, h2⟩
  ·exact Rx.byN_zero
  ·exact Rx.byN_is h1 h2
 unfold Rx.root
 rw [e]
 unfold Rx.placeE Rx.placeS
 rw [if_pos ⟨hk, ha⟩, if_pos ⟨hk, ha⟩]
theorem z_root_bad {x : Rt} {k h a : Int} (hk : ¬ (0 ≤ k ∧ k < 16)) (h0 : h ≠ 0) (hh : Hn.held x.hs h = (a, 0)) : Rx.root x k h = ((0, 1), x) := by
 unfold Rx.root
 rw [Rx.byN_is h0 hh]
 unfold Rx.placeE Rx.placeS
 rw [if_neg (fun g => hk g.1), if_neg (fun g => hk g.1)]
theorem en_collectN {i : Pl} {q : Nat} {a n : Int} {x : Rt} {N : Int} (I : x.Inv N) (hN : N + 1 < 2 ^ 50) {T1 T2 : Tree} (ha : a = 0 ∨ a = 1) (t : Takes L (i.Q q x) L')
  (h : ∀ x', x.CollR x' (a == 1) → x'.Inv (N + 1) → (((Sp.each x.S).length : Nat) : Int) - (((Sp.each x'.S).length : Nat) : Int) = n ∧ Tr ρ0 ρ (i.Q q x' ++ L') T2 Post) :
  Tr ρ0 ρ L (call Tryz.prog 15 [.pointer (some ⟨q, 0, none⟩), .int .i64 19, .int .i64 a, .int .i64 0, .int .i64 0] G2 fun r => call Tryz.prog 16 [.agg #[.int .i64 r.1, .int .i64 r.2.1], .int .i64 n] (.one (.l .bool)) fun r2 => br (!r2) T1 T2) Post := by
 refine en_call (law_do (op_collect i q x I a 0 0 hN)) t ?_
 rintro _ _ ⟨y, hy, rfl, rfl⟩
 unfold Rx.CollectR at hy
 rw [if_neg (by omega)] at hy
 obtain ⟨x', hC, rfl⟩ := hy
 obtain ⟨e, hT⟩ := h x' hC (hC.inv I)
 refine en_is (en_brf ?_ hT)
 show (!(decide ((0 : Int) = 0) && decide ((if (0 : Int) ≠ 0 then 0 else _) = n))) = false
 rw [if_neg (by decide), e]; simp
theorem en_collectP {i : Pl} {q : Nat} {a n : Int} {x : Rt} {N : Int} (I : x.Inv N) (hN : N + 1 < 2 ^ 50) {T1 T2 : Tree} (ha : a = 0 ∨ a = 1) (t : Takes L (i.Q q x) L')
  (h : ∀ x', x.CollR x' (a == 1) → x'.Inv (N + 1) → (((Sp.each x.S).length : Nat) : Int) - (((Sp.each x'.S).length : Nat) : Int) = n ∧ Tr ρ0 ρ (i.Q q x' ++ L') T2 Post) :
  Tr ρ0 ρ L (call Tryz.prog 15 [.pointer (some ⟨q, 0, none⟩), .int .i64 19, .int .i64 a, .int .i64 0, .int .i64 0] G2 fun r => call Tryz.prog 16 [.agg #[.int .i64 r.1, .int .i64 r.2.1], .int .i64 n] (.one (.l .bool)) fun r2 => br r2 T2 T1) Post := by
 refine en_call (law_do (op_collect i q x I a 0 0 hN)) t ?_
 rintro _ _ ⟨y, hy, rfl, rfl⟩
 unfold Rx.CollectR at hy
 rw [if_neg (by omega)] at hy
 obtain ⟨x', hC, rfl⟩ := hy
 obtain ⟨e, hT⟩ := h x' hC (hC.inv I)
 refine en_is (en_brt ?_ hT)
 show (decide ((0 : Int) = 0) && decide ((if (0 : Int) ≠ 0 then 0 else _) = n)) = true
 rw [if_neg (by decide), e]; simp
theorem law_rtroots (i0 v n0 : Int) (hi : 0 ≤ i0 ∧ i0 < 256) : Gl.Spec ρ Tryz.prog 5 [.int .u8 i0, i64 v, i64 n0] [] RB fun r M => r = true ∧ M = [] := by
 refine Gl.Spec.of (fun Q w h => F.gloaminglaw21.RtRoots.calls i0 v n0 h) fun R => ?_
 unfold F.gloaminglaw21.RtRoots
 rw [wrap64 (n := i0) (by omega) (by omega), Int.tmod_eq_emod_of_nonneg hi.1]
 obtain ⟨k, hk, hk16⟩ : ∃ k : Nat, i0 % 16 = (k : Int) ∧ k < 16 := ⟨(i0 % 16).toNat, by omega, by omega⟩
 rw [hk]
 refine en_call law_fresh .nil ?_
 rintro _ _ ⟨i, q, rfl, rfl⟩
 rw [rz_new, zcAns]
 try simp only [lca, lna]
 refine en_brf rfl (en_need (by decide) ?_)
 refine en_call (law_do (z_list i q new_bx rz_inv0 (by decide) (by simp) (by decide) (by decide) (.inr ⟨rfl, rfl⟩) 3 0 0 (by decide) (by decide) (hd := 512) rfl)) tks ?_
 rintro _ _ ⟨o, S1, rfl, ho, x1, I1, rfl⟩
 try simp only [lca, lna]
 change Bx S1 [] 60 [⟨o, ⟨3, 0, 3, false⟩, [0, 0, 0]⟩] at x1
 refine en_nw fun b3 => ?_
 refine en_st (b := b3) (off := 0) rfl tk (by simp) rfl ?_
 refine en_ld (k := .int .i64) (b := b3) (off := 1) (x := 512) (by rw [fa_mk]) tk rfl ?_
 have h1 := Hn.hs_held (l := [(0, o)]) (j := 0) (t := 0) (a := o) (x := 512) rfl (by omega) (by decide) (show 1 ≤ 512 by decide) (by decide)
 have e2 := Rx.put_num (x := RZ [] [] 0 S1 [(0, o)] (List.replicate 16 0) [] [] 0 0) (o := ⟨o, ⟨3, 0, 3, false⟩, [0, 0, 0]⟩) x1.bo (by simp) h1 (show (3 : Int) ≠ 4 by decide) (j := 2) (show (2 : Int) < 3 by decide) (by show (2 : Int) ∉ Rx.refsH [] ⟨3, 0, 3, false⟩; decide) v
 refine en_dos (e2 ▸ op_put i q _ I1 512 ((2 : Nat) : Int) v (by decide)) tks ?_
 have I2 := Rx.put_inv I1 512 ((2 : Nat) : Int) v
 change (Rx.put (RZ [] [] 0 S1 [(0, o)] (List.replicate 16 0) [] [] 0 0) 512 ((2 : Nat) : Int) v).2.Inv _ at I2
 rw [e2] at I2
 have x2 := (x1.put (i := 0) rfl (k := 2) (show (2 : Int) < 3 by decide) v).2
 dsimp only at I2 x2 ⊢
 generalize (Ob.put S1 o ((2 : Nat) : Int) v).2 = S2 at *
 change Bx S2 [] 60 [⟨o, ⟨3, 0, 3, false⟩, [0, 0, v]⟩] at x2
 refine en_ld (k := .int .i64) (b := b3) (off := 1) (x := 512) (by rw [fa_mk]) tk rfl ?_
 have e3 := z_root (cs := []) (rows := []) (ser := 0) (S := S2) (l := [(0, o)]) (ro := List.replicate 16 0) (pe := []) (wa := []) (ck := 0) (rn := 0) (k := k) (h := 512) (a := o) (by omega) (by omega) (.inr ⟨by decide, h1⟩)
 refine en_isN (e3 ▸ op_root i q _ I2 k 512 0 (by decide)) tks ?_
 have I3 := Rx.root_inv I2 k 512
 change (Rx.root (RZ [] [] 0 S2 [(0, o)] (List.replicate 16 0) [] [] 0 0) k 512).2.Inv _ at I3
 rw [e3, Int.toNat_natCast] at I3
 rw [Int.toNat_natCast]
 have r1 : ((List.replicate 16 (0 : Int)).set k o).getD k 0 = o := by rw [List.getD_eq_getElem?_getD, List.getElem?_set_self (by rw [List.length_replicate]; exact hk16)]; rfl
 have r2 : o ∈ (List.replicate 16 (0 : Int)).set k o := List.mem_set (by rw [List.length_replicate]; exact hk16) _
 have r3 : ((List.replicate 16 (0 : Int)).set k o).set k 0 = List.replicate 16 0 := by
  rw [List.set_set]
  apply List.ext_getElem?
  intro t
  rw [List.getElem?_set, List.length_replicate, List.getElem?_replicate]
  by_cases e : k = t
  ·subst e; rw [if_pos rfl, if_pos hk16]
  ·rw [if_neg e]
 dsimp only at I3
 generalize (List.replicate 16 (0 : Int)).set k o = ro1 at *
 refine en_ld (k := .int .i64) (b := b3) (off := 1) (x := 512) (by rw [fa_mk]) tk rfl ?_
 have e4 := z_drop (cs := []) (rows := []) (ser := 0) (S := S2) (ro := ro1) (pe := []) (wa := []) (ck := 0) (rn := 0) (l := [(0, o)]) (j := 0) (t := 0) (a := o) (h := 512) rfl (by omega) (by decide) (show 1 ≤ 512 by decide) (by decide)
 refine en_isN (e4 ▸ op_drop i q _ I3 512 0 0 (by decide)) tks ?_
 have I4 := Rx.drop_inv I3 (by decide) 512
 change (Rx.drop (RZ [] [] 0 S2 [(0, o)] ro1 [] [] 0 0) 512).2.Inv _ at I4
 rw [e4] at I4
 dsimp only [List.set] at I4 ⊢
 refine en_collectN I4 (by decide) (.inl rfl) tks fun x' hC Ic => ?_
 obtain ⟨S3, rfl, x3⟩ := z_collectD x2.bo (by simp) hC
 have m1 : o ∈ (RZ [] [] 0 S2 [(0 + 1, 0)] ro1 [] [] 0 0).roots := (z_roots (by decide) ho).mpr (.inr (.inl r2))
 rw [List.filter_cons_of_pos (by simpa using m1), List.filter_nil] at x3
 refine ⟨by
  have g1 := x2.each.length_eq
  have g2 := x3.each.length_eq
  change (Sp.each S2).length = 1 at g1
  change (Sp.each S3).length = 1 at g2
  show (((Sp.each S2).length : Nat) : Int) - (((Sp.each S3).length : Nat) : Int) = 0
  omega, ?_⟩
 try simp only [lca, lna]
 have e5 : Rx.take (RZ [] [] 0 S3 [(0 + 1, 0)] ro1 [] [] 0 (0 + 1)) k = ((1024, 0), RZ [] [] 0 S3 [(1, o)] ro1 [] [] 0 1) := by
  have e : Rx.rootR ro1 k = (o, 0) := by unfold Rx.rootR; rw [if_pos (by omega), Int.toNat_natCast, r1]
  unfold Rx.take
  rw [show (RZ [] [] 0 S3 [(0 + 1, 0)] ro1 [] [] 0 (0 + 1)).ro = ro1 from rfl, e, if_neg (fun g => g rfl)]
  obtain ⟨g1, g2⟩ := Rx.give_at (x := RZ [] [] 0 S3 [(0 + 1, 0)] ro1 [] [] 0 (0 + 1)) (l := [(0 + 1, 0)]) (j := 0) (t := 1) rfl rfl (fun t ht => by omega) (show 1 ≤ 512 by decide) ho
  exact Prod.ext g1 g2
 refine en_dos (e5 ▸ op_take i q _ Ic k 0 0 (by decide)) tks ?_
 have I5 := Rx.take_inv Ic k
 change (Rx.take (RZ [] [] 0 S3 [(0 + 1, 0)] ro1 [] [] 0 (0 + 1)) k).2.Inv _ at I5
 rw [e5] at I5
 dsimp only at I5
 clear e2 e3 e4 I1 I2 I3 I4 Ic x1 hC
 try simp only [lca, lna]
 refine en_nw fun b15 => ?_
 refine en_st (b := b15) (off := 0) rfl tk (by simp) rfl ?_
 refine Tr.drop (A := blk b3 [i64 0, i64 512]) tk ?_
 have h5 := Hn.hs_held (l := [(1, o)]) (j := 0) (t := 1) (a := o) (x := 1024) rfl (by omega) (by decide) (show 1 ≤ 512 by decide) (by decide)
 refine en_jn (fun u M => ∃ n : Int, u = (n, ()) ∧ ¬ (0 ≤ n ∧ n < 16) ∧ M = blk b15 [i64 0, i64 1024] :: (i.Q q (RZ [] [] 0 S3 [(1, o)] ro1 [] [] 0 1) ++ R)) ?_ ?_
 ·rintro _ _ ⟨n, rfl, hn, rfl⟩
  try simp only [lca, lna]
  refine en_jn (fun u M => u = (true, ()) ∧ M = blk b15 [i64 0, i64 1024] :: (i.Q q (RZ [] [] 0 S3 [(1, o)] ro1 [] [] 0 1) ++ R)) ?_ ?_
  ·rintro _ _ ⟨rfl, rfl⟩
   try simp only [lca, lna]
   refine en_brt rfl ?_
   have e6 := z_root (cs := []) (rows := []) (ser := 0) (S := S3) (l := [(1, o)]) (ro := ro1) (pe := []) (wa := []) (ck := 0) (rn := 1) (k := k) (h := 0) (a := 0) (by omega) (by decide) (.inl ⟨rfl, rfl⟩)
   refine en_isP (e6 ▸ op_root i q _ I5 k 0 0 (by decide)) tks ?_
   have I6 := Rx.root_inv I5 k 0
   change (Rx.root (RZ [] [] 0 S3 [(1, o)] ro1 [] [] 0 1) k 0).2.Inv _ at I6
   rw [e6, Int.toNat_natCast, r3] at I6
   rw [Int.toNat_natCast, r3]
   refine en_ld (k := .int .i64) (b := b15) (off := 1) (x := 1024) (by rw [fa_mk]) tk rfl ?_
   have e7 := z_drop (cs := []) (rows := []) (ser := 0) (S := S3) (ro := List.replicate 16 0) (pe := []) (wa := []) (ck := 0) (rn := 1) (l := [(1, o)]) (j := 0) (t := 1) (a := o) (h := 1024) rfl (by omega) (by decide) (show 1 ≤ 512 by decide) (by decide)
   refine en_isP (e7 ▸ op_drop i q _ I6 1024 0 0 (by decide)) tks ?_
   have I7 := Rx.drop_inv I6 (by decide) 1024
   change (Rx.drop (RZ [] [] 0 S3 [(1, o)] (List.replicate 16 0) [] [] 0 1) 1024).2.Inv _ at I7
   rw [e7] at I7
   dsimp only [List.set] at I7 ⊢
   have e8 : Rx.take (RZ [] [] 0 S3 [(1 + 1, 0)] (List.replicate 16 0) [] [] 0 1) k = ((0, 0), RZ [] [] 0 S3 [(1 + 1, 0)] (List.replicate 16 0) [] [] 0 1) := by
    have e : Rx.rootR (List.replicate 16 0) k = (0, 0) := by
     unfold Rx.rootR
     rw [if_pos (by omega), Int.toNat_natCast, List.getD_eq_getElem?_getD, List.getElem?_replicate, if_pos hk16]; rfl
    unfold Rx.take
    rw [show (RZ [] [] 0 S3 [(1 + 1, 0)] (List.replicate 16 0) [] [] 0 1).ro = List.replicate 16 0 from rfl, e, if_neg (fun g => g rfl)]; rfl
   refine en_isP (e8 ▸ op_take i q _ I7 k 0 0 (by decide)) tks ?_
   refine en_collectP I7 (by decide) (.inr rfl) tks fun x' hC Ic => ?_
   obtain ⟨S4, rfl, x4⟩ := z_collectD x3 (by simp) hC
   have m2 : o ∉ (RZ [] [] 0 S3 [(1 + 1, 0)] (List.replicate 16 0) [] [] 0 1).roots := fun g => by
    rcases (z_roots (by decide) ho).mp g with ⟨e, he, g⟩ | g | ⟨r, hr, _⟩ | g
    ·rw [List.mem_singleton] at he; subst he; change (0 : Int) = o at g; omega
    ·have := List.eq_of_mem_replicate g; omega
    ·cases hr
    ·cases g
   rw [List.filter_cons_of_neg (by simpa using m2), List.filter_nil] at x4
   have g1 := x3.each.length_eq
   have g2 := x4.each.length_eq
   change (Sp.each S3).length = 1 at g1
   change (Sp.each S4).length = 0 at g2
   refine ⟨by
    show (((Sp.each S3).length : Nat) : Int) - (((Sp.each S4).length : Nat) : Int) = 1
    omega, ?_⟩
   try simp only [lca, lna]
   have g3 : Sp.each S4 = [] := List.eq_nil_of_length_eq_zero g2
   have hcnt : ∀ (a n : Int), 0 ≤ a → a < 5 → (Rx.counts (RZ [] [] 0 S4 [(1 + 1, 0)] (List.replicate 16 0) [] [] 0 (1 + 1))).getD a.toNat 0 = n → Rx.count (RZ [] [] 0 S4 [(1 + 1, 0)] (List.replicate 16 0) [] [] 0 (1 + 1)) a = ((n, 0), RZ [] [] 0 S4 [(1 + 1, 0)] (List.replicate 16 0) [] [] 0 (1 + 1)) := fun a n h0 h5 hn => by
    unfold Rx.count
    rw [if_neg (by omega), hn]
   refine en_isP (hcnt 3 0 (by decide) (by decide) (by show (((Sp.each S4).length : Nat) : Int) = 0; rw [g2]; rfl) ▸ op_count i q _ Ic 3 0 0 (by decide)) tks ?_
   refine en_isP (hcnt 4 2 (by decide) (by decide) rfl ▸ op_count i q _ Ic 4 0 0 (by decide)) tks ?_
   refine en_isP (hcnt 0 0 (by decide) (by decide) (by show ((Sp.each S4).map (Sp.wordsAt S4)).sum = 0; rw [g3]; rfl) ▸ op_count i q _ Ic 0 0 0 (by decide)) tks ?_
   refine en_call (law_awake21) tks ?_
   rintro x' M ⟨rfl, rfl⟩
   try simp only [lca, lna]
   exact en_rets (x := true) rfl ⟨rfl, rfl⟩ tks ens
  ·intro J hJ
   refine en_ld (k := .int .i64) (b := b15) (off := 1) (x := 1024) (by rw [fa_mk]) tk rfl ?_
   have e6 := Rx.get_num (x := RZ [] [] 0 S3 [(1, o)] ro1 [] [] 0 1) (o := ⟨o, ⟨3, 0, 3, false⟩, [0, 0, v]⟩) x3 (by simp) h5 (show (3 : Int) ≠ 4 by decide) (j := 2) (show (2 : Int) < 3 by decide) (by show (2 : Int) ∉ Rx.refsH [] ⟨3, 0, 3, false⟩; decide)
   refine en_isP (e6 ▸ op_get i q _ I5 1024 ((2 : Nat) : Int) 0 (by decide)) tks ?_
   refine en_ld (k := .int .i64) (b := b15) (off := 1) (x := 1024) (by rw [fa_mk]) tk rfl ?_
   refine en_failP (z_root_bad (x := RZ [] [] 0 S3 [(1, o)] ro1 [] [] 0 1) (k := n) (h := 1024) hn (by decide) h5 ▸ op_root i q (RZ [] [] 0 S3 [(1, o)] ro1 [] [] 0 1) I5 n 1024 0 (by decide)) tks ?_
   have e7 : Rx.take (RZ [] [] 0 S3 [(1, o)] ro1 [] [] 0 1) n = ((0, 1), RZ [] [] 0 S3 [(1, o)] ro1 [] [] 0 1) := by
    unfold Rx.take Rx.rootR
    rw [if_neg hn, if_pos (show (1 : Int) ≠ 0 by decide)]
   refine en_dos (e7 ▸ op_take i q _ I5 n 0 0 (by decide)) tks (en_fails ?_)
   exact Tr.perm (Takes.perm (M := blk b15 [i64 0, i64 1024] :: i.Q q (RZ [] [] 0 S3 [(1, o)] ro1 [] [] 0 1)) tks) (hJ _ _ ⟨rfl, rfl⟩)
 ·intro J hJ
  have go : ∀ n : Int, ¬ (0 ≤ n ∧ n < 16) → ∀ {LL : List Asn}, Takes LL (blk b15 [i64 0, i64 1024] :: i.Q q (RZ [] [] 0 S3 [(1, o)] ro1 [] [] 0 1)) R → Tr ρ ρ LL (J (n, ())) (SP RB (fun r M => r = true ∧ M = []) R) := fun n hn LL t => Tr.perm t.perm (hJ _ _ ⟨n, rfl, hn, rfl⟩)
  refine en_br (fun e => ?_) (fun e => ?_)
  ·refine en_br (fun e' => ?_) (fun e' => ?_)
   ·exact go 16 (by decide) tks
   ·have e' : ¬ n0 < 16 := of_decide_eq_false e'
    exact go n0 (fun g => e' g.2) tks
  ·have e : ¬ n0 ≥ 0 := of_decide_eq_false e
   exact go n0 (fun g => e g.1) tks
end Go.Proofs.YtkljcopnaodfgaaGreat
