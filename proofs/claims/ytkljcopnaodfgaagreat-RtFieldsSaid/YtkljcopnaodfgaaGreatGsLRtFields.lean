/- The law RtFields. -/
import Derived.Test.YtkljcopnaodfgaaGreatGsRtB
import Derived.Test.YtkljcopnaodfgaaGreatGsTxRtFields
set_option linter.unusedSimpArgs false
set_option linter.unusedVariables false
namespace Go.Proofs.YtkljcopnaodfgaaGreat
open Go Go.Gl
variable {ρ0 ρ : FR} {L L' : List Asn} {Post : Value → List Asn → Prop} {T : Tree}
theorem Bx.cls {S : Spc} {cs cs' : List Cls} {P : Nat} {os : List Ob1} (H : Bx S cs P os) (hw : HWf S cs') : Bx S cs' P os := { H with hw := hw }
theorem z_class {N : Int} {rows : List (List Int)} {ser : Int} {S : Spc} {l : List Hn.Slot} {ro wa pe : List Int} {ck rn : Int} (I : (RZ [] rows ser S l ro wa pe ck rn).Inv N) {a b : Int} {c : Cls} (hb : 0 ≤ b ∧ b < 4294967296) (hc : Sp.addC [] (a, Rx.bits b 32) = (1, 0, [c])) :
  Rx.class' (RZ [] rows ser S l ro wa pe ck rn) a b = ((1, 0), RZ [c] rows ser S l ro wa pe ck rn) ∧ (RZ [c] rows ser S l ro wa pe ck rn).Inv N ∧ HWf S [c] := by
 have hw : HWf S (Sp.addC [] (a, Rx.bits b 32)).2.2 := I.w.hw.addC (by have := Rx.bits_len b 32; omega)
 rw [hc] at hw
 refine ⟨?_, { I with w := { I.w with hw := hw } }, hw⟩
 unfold Rx.class'
 rw [if_neg (by omega)]
 show (((Sp.addC [] (a, Rx.bits b 32)).1, (Sp.addC [] (a, Rx.bits b 32)).2.1), ({ RZ [] rows ser S l ro wa pe ck rn with cs := (Sp.addC [] (a, Rx.bits b 32)).2.2 } : Rt)) = _
 rw [hc]
theorem z_plain (i : Pl) (q : Nat) {N : Int} {cs : List Cls} {rows : List (List Int)} {ser : Int} {S : Spc} {l : List Hn.Slot} {ro wa pe : List Int} {ck rn : Int} {os : List Ob1} (bx : Bx S cs 60 os) (I : (RZ cs rows ser S l ro wa pe ck rn).Inv N) (hN : N + 10 < 2 ^ 49) (hl : ∀ e ∈ l, e.2 ≠ 0) (hl5 : l.length < 512) (hn : os.length + 1 < 60) (a b c : Int) (ha : 1 ≤ a ∧ a ≤ cs.length) {n : Int} (hcn : (cs.getD (a - 1).toNat (0, [])).1 = n)
  (hm : Ob.may cs ⟨1, a, n, false⟩ = 0) (n0 : 0 ≤ n) (n1 : n ≤ 63) {hd : Int} (hhd : hd = ((l.length : Nat) : Int) + 512) :
  Gl.Spec ρ Tryz.prog 22 [.pointer (some ⟨q, 0, none⟩), opV 2 a b c] (i.Q q (RZ cs rows ser S l ro wa pe ck rn)) G2
  fun r M => ∃ (o : Int) (S' : Spc), r = ((0 : Int), hd, ()) ∧ 0 < o ∧ Bx S' cs 60 (os ++ [⟨o, ⟨1, a, n, false⟩, List.replicate n.toNat 0⟩]) ∧ (RZ cs rows ser S' (l ++ [(0, o)]) ro wa pe ck rn).Inv (N + 10) ∧ M = i.Q q (RZ cs rows ser S' (l ++ [(0, o)]) ro wa pe ck rn) := by
 refine Spec.post (op_plain i q _ I a b c hN) fun r M hh => ?_
 obtain ⟨y, ⟨hy, Iy⟩, rfl, rfl⟩ := hh
 unfold Rx.plainR at hy
 rw [if_pos ha, show (RZ cs rows ser S l ro wa pe ck rn).cs = cs from rfl, hcn] at hy
 obtain ⟨o, S', rfl, ho, b1⟩ := z_make bx I hl hl5 hn hm n0 n1 hy
 exact ⟨o, S', by rw [hhd]; rfl, ho, b1, Iy, rfl⟩
theorem en_dosS {i : Pl} {q : Nat} {k a b c : Int} {x : Rt} {y : Ans2} {K : RT G2 → Tree} {A1 A2 : Asn} {e n : Int} (hs : Dos ρ i q k a b c x y) (h1 : A1 = star (i.Q q x)) (h2 : A2 = star (i.Q q y.2)) (he : ansOf y.1.1 y.1.2 = (e, n, ())) (t : Take L A1 L') (h : Tr ρ0 ρ (A2 :: L') (K (e, n, ())) Post) :
  Tr ρ0 ρ L (call Tryz.prog 15 [.pointer (some ⟨q, 0, none⟩), .int .i64 k, .int .i64 a, .int .i64 b, .int .i64 c] G2 K) Post := by
 subst h1 h2
 refine en_call (Spec.starred (law_do hs)) (.cons t .nil) ?_
 rintro _ _ ⟨_, ⟨rfl, rfl⟩, rfl⟩
 rw [he]
 exact h
namespace Fields
abbrev cl : Cls := (4, [0, 2])
abbrev hA : Hd := ⟨1, 1, 4, false⟩
abbrev hB : Hd := ⟨3, 0, 9, false⟩
abbrev hD : Hd := ⟨2, 0, 9, false⟩
abbrev z9 : List Int := List.replicate 9 0
theorem upto9 {m : Nat} (h : m < 9) : (m : Int) ∈ Rx.refsH [cl] hD := by
 show (m : Int) ∈ Sp.upto 9
 unfold Sp.upto
 exact List.mem_map.mpr ⟨m, List.mem_range.mpr h, rfl⟩
theorem z9_get {m : Nat} (h : m < 9) (v : Int) : (z9.set m v).getD m 0 = v := by
 rw [List.getD_eq_getElem?_getD, List.getElem?_set_self (by simpa using h)]; rfl
end Fields
open Fields in
theorem law_rtfields (v i0 j0 : Int) (hi : 0 ≤ i0 ∧ i0 < 256) (hj : 0 ≤ j0 ∧ j0 < 256) : Gl.Spec ρ Tryz.prog 3 [i64 v, .int .u8 i0, .int .u8 j0] [] RB fun r M => r = true ∧ M = [] := by
 refine Gl.Spec.of (fun Q w h => F.gloaminglaw21.RtFields.calls v i0 j0 h) fun R => ?_
 unfold F.gloaminglaw21.RtFields
 rw [wrap64 (n := i0) (by omega) (by omega), wrap64 (n := j0) (by omega) (by omega), Int.tmod_eq_emod_of_nonneg hi.1, Int.tmod_eq_emod_of_nonneg hj.1]
 obtain ⟨k, hk, hk9⟩ : ∃ k : Nat, i0 % 9 = (k : Int) ∧ k < 9 := ⟨(i0 % 9).toNat, by omega, by omega⟩
 obtain ⟨m, hm, hm9⟩ : ∃ m : Nat, j0 % 9 = (m : Int) ∧ m < 9 := ⟨(j0 % 9).toNat, by omega, by omega⟩
 rw [hk, hm]
 refine en_call law_fresh .nil ?_
 rintro _ _ ⟨i, q, rfl, rfl⟩
 rw [rz_new, zcAns]
 try simp only [lca, lna]
 refine en_brf rfl ?_
 obtain ⟨c1, c2, c3⟩ := z_class rz_inv0 (a := 4) (b := 5) (c := cl) (by decide) (by kernel_rfl)
 refine en_dos (c1 ▸ op_class i q _ rz_inv0 4 5 0) tks ?_
 try simp only [lca, lna]
 refine en_nw fun b3 => ?_
 refine en_st (b := b3) (off := 0) rfl tk (by simp) rfl ?_
 refine en_ld (k := .int .i64) (b := b3) (off := 1) (x := 1) (by rw [fa_mk]) tk rfl ?_
 refine en_call (law_do (z_plain i q (new_bx.cls c3) c2 (by decide) (by simp) (by decide) (by decide) 1 0 0 (by decide) (n := 4) rfl (by decide) (by decide) (by decide) (hd := 512) rfl)) tks ?_
 rintro _ _ ⟨a, S1, rfl, ha, x1, I1, rfl⟩
 try simp only [lca, lna]
 refine en_nw fun b6 => ?_
 refine en_st (b := b6) (off := 0) rfl tk (by simp) rfl ?_
 refine en_call (law_do (z_list i q x1 I1 (by decide) (by simp; omega) (show 1 < 512 by decide) (show 1 + 1 < 60 by decide) (.inr ⟨rfl, rfl⟩) 9 0 0 (by decide) (by decide) (hd := 513) rfl)) tks ?_
 rintro _ _ ⟨b, S2, rfl, hb, x2, I2, rfl⟩
 try simp only [lca, lna]
 refine en_nw fun b8 => ?_
 refine en_st (b := b8) (off := 0) rfl tk (by simp) rfl ?_
 refine en_call (law_do (z_list i q x2 I2 (by decide) (by simp; omega) (show 2 < 512 by decide) (show 2 + 1 < 60 by decide) (.inl ⟨rfl, rfl⟩) 9 0 0 (by decide) (by decide) (hd := 514) rfl)) tks ?_
 rintro _ _ ⟨d, S3, rfl, hd, x3, I3, rfl⟩
 try simp only [lca, lna]
 refine en_nw fun b10 => ?_
 refine en_st (b := b10) (off := 0) rfl tk (by simp) rfl ?_
 refine en_need (by decide) (en_need (by decide) ?_)
 change Bx S3 [cl] 60 [⟨a, hA, [0, 0, 0, 0]⟩, ⟨b, hB, z9⟩, ⟨d, hD, z9⟩] at x3
 have hA3 := Hn.hs_held (l := [(0, a), (0, b), (0, d)]) (j := 0) (t := 0) (a := a) (x := 512) rfl (by omega) (by decide) (show 3 ≤ 512 by decide) (by decide)
 have hB3 := Hn.hs_held (l := [(0, a), (0, b), (0, d)]) (j := 1) (t := 0) (a := b) (x := 513) rfl (by omega) (by decide) (show 3 ≤ 512 by decide) (by decide)
 have hD3 := Hn.hs_held (l := [(0, a), (0, b), (0, d)]) (j := 2) (t := 0) (a := d) (x := 514) rfl (by omega) (by decide) (show 3 ≤ 512 by decide) (by decide)
 refine en_ld (k := .int .i64) (b := b6) (off := 1) (x := 512) (by rw [fa_mk]) tk rfl ?_
 have e4 := Rx.put_num (x := RZ [cl] [] 0 S3 [(0, a), (0, b), (0, d)] (List.replicate 16 0) [] [] 0 0) (o := ⟨a, hA, [0, 0, 0, 0]⟩) x3.bo (by simp) hA3 (show (1 : Int) ≠ 4 by decide) (j := 1) (show (1 : Int) < 4 by decide) (by show (1 : Int) ∉ Rx.refsH [cl] hA; decide) v
 refine en_isN (e4 ▸ op_put i q _ I3 512 ((1 : Nat) : Int) v (by decide)) tks ?_
 have I4 := Rx.put_inv I3 512 ((1 : Nat) : Int) v
 change (Rx.put (RZ [cl] [] 0 S3 [(0, a), (0, b), (0, d)] (List.replicate 16 0) [] [] 0 0) 512 ((1 : Nat) : Int) v).2.Inv _ at I4
 rw [e4] at I4
 have x4 := (x3.put (i := 0) rfl (k := 1) (show (1 : Int) < 4 by decide) v).2
 dsimp only at I4 x4 ⊢
 generalize (Ob.put S3 a ((1 : Nat) : Int) v).2 = S4 at *
 change Bx S4 [cl] 60 [⟨a, hA, [0, v, 0, 0]⟩, ⟨b, hB, z9⟩, ⟨d, hD, z9⟩] at x4
 refine en_ld (k := .int .i64) (b := b8) (off := 1) (x := 513) (by rw [fa_mk]) tk rfl ?_
 have e5 := Rx.put_num (x := RZ [cl] [] 0 S4 [(0, a), (0, b), (0, d)] (List.replicate 16 0) [] [] 0 0) (o := ⟨b, hB, z9⟩) x4.bo (by simp) hB3 (show (3 : Int) ≠ 4 by decide) (j := k) (show (k : Int) < 9 by omega) (by show (k : Int) ∉ Rx.refsH [cl] hB; unfold Rx.refsH; simp) v
 refine en_isN (e5 ▸ op_put i q _ I4 513 k v (by decide)) tks ?_
 have I5 := Rx.put_inv I4 513 k v
 change (Rx.put (RZ [cl] [] 0 S4 [(0, a), (0, b), (0, d)] (List.replicate 16 0) [] [] 0 0) 513 k v).2.Inv _ at I5
 rw [e5] at I5
 have x5 := (x4.put (i := 1) rfl (k := k) (show (k : Int) < 9 by omega) v).2
 dsimp only at I5 x5 ⊢
 generalize (Ob.put S4 b (k : Int) v).2 = S5 at *
 change Bx S5 [cl] 60 [⟨a, hA, [0, v, 0, 0]⟩, ⟨b, hB, z9.set k v⟩, ⟨d, hD, z9⟩] at x5
 refine en_ld (k := .int .i64) (b := b6) (off := 1) (x := 512) (by rw [fa_mk]) tk rfl ?_
 refine en_ld (k := .int .i64) (b := b8) (off := 1) (x := 513) (by rw [fa_mk]) tk rfl ?_
 have e6 := Rx.set_adr (x := RZ [cl] [] 0 S5 [(0, a), (0, b), (0, d)] (List.replicate 16 0) [] [] 0 0) (o := ⟨a, hA, [0, v, 0, 0]⟩) x5.bo (by simp) hA3 (show (1 : Int) ≠ 4 by decide) (j := 2) (show (2 : Int) < 4 by decide) (by show (2 : Int) ∈ Rx.refsH [cl] hA; decide) (c := 513) (a := b) (.inr ⟨by decide, hB3⟩)
 refine en_isN (e6 ▸ op_set i q _ I5 512 ((2 : Nat) : Int) 513 (by decide)) tks ?_
 have I6 := Rx.set_inv I5 512 ((2 : Nat) : Int) 513
 change (Rx.set (RZ [cl] [] 0 S5 [(0, a), (0, b), (0, d)] (List.replicate 16 0) [] [] 0 0) 512 ((2 : Nat) : Int) 513).2.Inv _ at I6
 rw [e6] at I6
 have x6 := (x5.put (i := 0) rfl (k := 2) (show (2 : Int) < 4 by decide) b).2
 dsimp only at I6 x6 ⊢
 generalize (Ob.put S5 a ((2 : Nat) : Int) b).2 = S6 at *
 change Bx S6 [cl] 60 [⟨a, hA, [0, v, b, 0]⟩, ⟨b, hB, z9.set k v⟩, ⟨d, hD, z9⟩] at x6
 refine en_ld (k := .int .i64) (b := b10) (off := 1) (x := 514) (by rw [fa_mk]) tk rfl ?_
 refine en_ld (k := .int .i64) (b := b6) (off := 1) (x := 512) (by rw [fa_mk]) tk rfl ?_
 have e7 := Rx.set_adr (x := RZ [cl] [] 0 S6 [(0, a), (0, b), (0, d)] (List.replicate 16 0) [] [] 0 0) (o := ⟨d, hD, z9⟩) x6.bo (by simp) hD3 (show (2 : Int) ≠ 4 by decide) (j := m) (show (m : Int) < 9 by omega) (upto9 hm9) (c := 512) (a := a) (.inr ⟨by decide, hA3⟩)
 refine en_isN (e7 ▸ op_set i q _ I6 514 m 512 (by decide)) tks ?_
 have I7 := Rx.set_inv I6 514 m 512
 change (Rx.set (RZ [cl] [] 0 S6 [(0, a), (0, b), (0, d)] (List.replicate 16 0) [] [] 0 0) 514 m 512).2.Inv _ at I7
 rw [e7] at I7
 have x7 := (x6.put (i := 2) rfl (k := m) (show (m : Int) < 9 by omega) a).2
 dsimp only at I7 x7 ⊢
 generalize (Ob.put S6 d (m : Int) a).2 = S7 at *
 change Bx S7 [cl] 60 [⟨a, hA, [0, v, b, 0]⟩, ⟨b, hB, z9.set k v⟩, ⟨d, hD, z9.set m a⟩] at x7
 have ea : Rx.get (RZ [cl] [] 0 S7 [(0, a), (0, b), (0, d)] (List.replicate 16 0) [] [] 0 0) 512 ((2 : Nat) : Int) = ((515, 0), RZ [cl] [] 0 S7 [(0, a), (0, b), (0, d), (0, b)] (List.replicate 16 0) [] [] 0 0) := by
  rw [Rx.get_adr (o := ⟨a, hA, [0, v, b, 0]⟩) x7.bo (by simp) hA3 (show (1 : Int) ≠ 4 by decide) (j := 2) (show (2 : Int) < 4 by decide) (by show (2 : Int) ∈ Rx.refsH [cl] hA; decide)]
  obtain ⟨g1, g2⟩ := Rx.give_new (x := RZ [cl] [] 0 S7 [(0, a), (0, b), (0, d)] (List.replicate 16 0) [] [] 0 0) (l := [(0, a), (0, b), (0, d)]) rfl (by simp; omega) (show 3 < 512 by decide) hb
  exact Prod.ext g1 g2
 have Ia := Rx.get_inv I7 512 ((2 : Nat) : Int)
 change (Rx.get (RZ [cl] [] 0 S7 [(0, a), (0, b), (0, d)] (List.replicate 16 0) [] [] 0 0) 512 ((2 : Nat) : Int)).2.Inv _ at Ia
 rw [ea] at Ia
 dsimp only at Ia
 have hD4 := Hn.hs_held (l := [(0, a), (0, b), (0, d), (0, b)]) (j := 2) (t := 0) (a := d) (x := 514) rfl (by omega) (by decide) (show 4 ≤ 512 by decide) (by decide)
 have eb : Rx.get (RZ [cl] [] 0 S7 [(0, a), (0, b), (0, d), (0, b)] (List.replicate 16 0) [] [] 0 0) 514 m = ((516, 0), RZ [cl] [] 0 S7 [(0, a), (0, b), (0, d), (0, b), (0, a)] (List.replicate 16 0) [] [] 0 0) := by
  rw [Rx.get_adr (o := ⟨d, hD, z9.set m a⟩) x7.bo (by simp) hD4 (show (2 : Int) ≠ 4 by decide) (j := m) (show (m : Int) < 9 by omega) (upto9 hm9), z9_get hm9]
  obtain ⟨g1, g2⟩ := Rx.give_new (x := RZ [cl] [] 0 S7 [(0, a), (0, b), (0, d), (0, b)] (List.replicate 16 0) [] [] 0 0) (l := [(0, a), (0, b), (0, d), (0, b)]) rfl (by simp; omega) (show 4 < 512 by decide) ha
  exact Prod.ext g1 g2
 have Ib := Rx.get_inv Ia 514 m
 change (Rx.get (RZ [cl] [] 0 S7 [(0, a), (0, b), (0, d), (0, b)] (List.replicate 16 0) [] [] 0 0) 514 m).2.Inv _ at Ib
 rw [eb] at Ib
 dsimp only at Ib
 have da : ∀ {ρ : FR}, Dos ρ i q 5 512 2 0 (RZ [cl] [] 0 S7 [(0, a), (0, b), (0, d)] (List.replicate 16 0) [] [] 0 0) ((515, 0), RZ [cl] [] 0 S7 [(0, a), (0, b), (0, d), (0, b)] (List.replicate 16 0) [] [] 0 0) := ea ▸ op_get i q _ I7 512 ((2 : Nat) : Int) 0 (by decide)
 have db : ∀ {ρ : FR}, Dos ρ i q 5 514 m 0 (RZ [cl] [] 0 S7 [(0, a), (0, b), (0, d), (0, b)] (List.replicate 16 0) [] [] 0 0) ((516, 0), RZ [cl] [] 0 S7 [(0, a), (0, b), (0, d), (0, b), (0, a)] (List.replicate 16 0) [] [] 0 0) := eb ▸ op_get i q _ Ia 514 m 0 (by decide)
 have x9 := (x7.put (i := 2) rfl (k := m) (show (m : Int) < 9 by omega) 0).2
 dsimp only at x9
 have hH : ∀ {n : Nat} {o h : Int}, [a, b, d, b, a][n]? = some o → h = (n : Int) + 512 → Hn.held (Hn.Hs [(0, a), (0, b), (0, d), (0, b), (0, a)]) h = (o, 0) := fun {n o h} ho hh => by
  refine Hn.hs_held (j := n) (t := 0) (l := [(0, a), (0, b), (0, d), (0, b), (0, a)]) ?_ ?_ (by decide) (show 5 ≤ 512 by decide) (by omega)
  ·have : [(0, a), (0, b), (0, d), (0, b), (0, a)] = [a, b, d, b, a].map fun z : Int => ((0 : Int), z) := rfl
   rw [this, List.getElem?_map, ho]; rfl
  ·have := List.mem_of_getElem? ho
   simp only [List.mem_cons, List.not_mem_nil, or_false] at this
   omega
 generalize hX : RZ [cl] [] 0 S7 [(0, a), (0, b), (0, d), (0, b), (0, a)] (List.replicate 16 0) [] [] 0 0 = X at *
 have hXb : Bo X.S X.cs [⟨a, hA, [0, v, b, 0]⟩, ⟨b, hB, z9.set k v⟩, ⟨d, hD, z9.set m a⟩] := by rw [← hX]; exact x7.bo
 have hXh : X.hs = Hn.Hs [(0, a), (0, b), (0, d), (0, b), (0, a)] := by rw [← hX]
 have hXc : X.cs = [cl] := by rw [← hX]
 have hXS : X.S = S7 := by rw [← hX]
 clear hX
 refine en_jn (fun u M => ∃ be bf : Nat, u = (⟨be, 0, none⟩, ⟨bf, 0, none⟩, ()) ∧ M = [blk be [i64 0, i64 515], blk bf [i64 0, i64 516], blk b6 [i64 0, i64 512], blk b8 [i64 0, i64 513], blk b10 [i64 0, i64 514]] ++ (i.Q q X ++ R)) ?_ ?_
 ·rintro _ _ ⟨be, bf, rfl, rfl⟩
  try simp only [lca, lna]
  have gn : ∀ {h : Int} {o : Ob1} {n : Nat} {w : Int}, o ∈ [(⟨a, hA, [0, v, b, 0]⟩ : Ob1), ⟨b, hB, z9.set k v⟩, ⟨d, hD, z9.set m a⟩] → Hn.held (Hn.Hs [(0, a), (0, b), (0, d), (0, b), (0, a)]) h = (o.a, 0) → o.h.k ≠ 4 → (n : Int) < o.h.n → (n : Int) ∉ Rx.refsH [cl] o.h → o.ws.getD n 0 = w → Dos ρ i q 5 h n 0 X ((w, 0), X) := fun ho hh h4 hn hr hw => by
   have := Rx.get_num hXb ho (by rw [hXh]; exact hh) h4 hn (by rw [hXc]; exact hr)
   rw [hw] at this
   exact this ▸ op_get i q X Ib _ _ 0 (by decide)
  have bB : (k : Int) ∉ Rx.refsH [cl] hB := by unfold Rx.refsH; simp
  refine en_ld (k := .int .i64) (b := b6) (off := 1) (x := 512) (by rw [fa_mk]) tk rfl ?_
  refine en_isP (gn (h := 512) (o := ⟨a, hA, [0, v, b, 0]⟩) (n := 1) (w := v) (by simp) (hH (n := 0) rfl (by decide)) (show (1 : Int) ≠ 4 by decide) (show (1 : Int) < 4 by decide) (by show (1 : Int) ∉ Rx.refsH [cl] hA; decide) rfl) tks ?_
  refine en_ld (k := .int .i64) (b := b8) (off := 1) (x := 513) (by rw [fa_mk]) tk rfl ?_
  refine en_isP (gn (h := 513) (o := ⟨b, hB, z9.set k v⟩) (n := k) (w := v) (by simp) (hH (n := 1) rfl (by decide)) (show (3 : Int) ≠ 4 by decide) (show (k : Int) < 9 by omega) bB (z9_get hk9 v)) tks ?_
  refine en_ld (k := .int .i64) (b := be) (off := 1) (x := 515) (by rw [fa_mk]) tk rfl ?_
  refine en_isP (gn (h := 515) (o := ⟨b, hB, z9.set k v⟩) (n := k) (w := v) (by simp) (hH (n := 3) rfl (by decide)) (show (3 : Int) ≠ 4 by decide) (show (k : Int) < 9 by omega) bB (z9_get hk9 v)) tks ?_
  refine en_ld (k := .int .i64) (b := bf) (off := 1) (x := 516) (by rw [fa_mk]) tk rfl ?_
  refine en_isP (gn (h := 516) (o := ⟨a, hA, [0, v, b, 0]⟩) (n := 1) (w := v) (by simp) (hH (n := 4) rfl (by decide)) (show (1 : Int) ≠ 4 by decide) (show (1 : Int) < 4 by decide) (by show (1 : Int) ∉ Rx.refsH [cl] hA; decide) rfl) tks ?_
  refine en_ld (k := .int .i64) (b := be) (off := 1) (x := 515) (by rw [fa_mk]) tk rfl ?_
  refine en_ld (k := .int .i64) (b := b8) (off := 1) (x := 513) (by rw [fa_mk]) tk rfl ?_
  refine en_brt rfl ?_
  refine en_ld (k := .int .i64) (b := bf) (off := 1) (x := 516) (by rw [fa_mk]) tk rfl ?_
  refine en_ld (k := .int .i64) (b := b6) (off := 1) (x := 512) (by rw [fa_mk]) tk rfl ?_
  refine en_brt rfl ?_
  refine en_ld (k := .int .i64) (b := b6) (off := 1) (x := 512) (by rw [fa_mk]) tk rfl ?_
  have h512 : Hn.held X.hs 512 = (a, 0) := by rw [hXh]; exact hH (n := 0) rfl (by decide)
  have h513 : Hn.held X.hs 513 = (b, 0) := by rw [hXh]; exact hH (n := 1) rfl (by decide)
  have h514 : Hn.held X.hs 514 = (d, 0) := by rw [hXh]; exact hH (n := 2) rfl (by decide)
  have mA : (⟨a, hA, [0, v, b, 0]⟩ : Ob1) ∈ [(⟨a, hA, [0, v, b, 0]⟩ : Ob1), ⟨b, hB, z9.set k v⟩, ⟨d, hD, z9.set m a⟩] := by simp
  have mB : (⟨b, hB, z9.set k v⟩ : Ob1) ∈ [(⟨a, hA, [0, v, b, 0]⟩ : Ob1), ⟨b, hB, z9.set k v⟩, ⟨d, hD, z9.set m a⟩] := by simp
  have mD : (⟨d, hD, z9.set m a⟩ : Ob1) ∈ [(⟨a, hA, [0, v, b, 0]⟩ : Ob1), ⟨b, hB, z9.set k v⟩, ⟨d, hD, z9.set m a⟩] := by simp
  have f0 : Rx.get X 512 ((0 : Nat) : Int) = ((0, 0), X) := Rx.get_adr hXb mA h512 (show (1 : Int) ≠ 4 by decide) (j := 0) (show (0 : Int) < 4 by decide) (by rw [hXc]; show (0 : Int) ∈ Rx.refsH [cl] hA; decide)
  refine en_isP (f0 ▸ op_get i q X Ib 512 ((0 : Nat) : Int) 0 (by decide)) tks ?_
  refine en_ld (k := .int .i64) (b := b6) (off := 1) (x := 512) (by rw [fa_mk]) tk rfl ?_
  have f1 : Rx.put X 512 ((0 : Nat) : Int) v = ((0, 5), X) := Rx.put_adr hXb mA h512 (show (1 : Int) ≠ 4 by decide) (j := 0) (show (0 : Int) < 4 by decide) (by rw [hXc]; show (0 : Int) ∈ Rx.refsH [cl] hA; decide) v
  refine en_failP (f1 ▸ op_put i q X Ib 512 ((0 : Nat) : Int) v (by decide)) tks ?_
  refine en_ld (k := .int .i64) (b := b6) (off := 1) (x := 512) (by rw [fa_mk]) tk rfl ?_
  refine en_ld (k := .int .i64) (b := b8) (off := 1) (x := 513) (by rw [fa_mk]) tk rfl ?_
  have f2 : Rx.set X 512 ((1 : Nat) : Int) 513 = ((0, 5), X) := Rx.set_num hXb mA h512 (show (1 : Int) ≠ 4 by decide) (j := 1) (show (1 : Int) < 4 by decide) (by rw [hXc]; show (1 : Int) ∉ Rx.refsH [cl] hA; decide) (.inr ⟨by decide, h513⟩)
  refine en_failP (f2 ▸ op_set i q X Ib 512 ((1 : Nat) : Int) 513 (by decide)) tks ?_
  refine en_ld (k := .int .i64) (b := b8) (off := 1) (x := 513) (by rw [fa_mk]) tk rfl ?_
  refine en_ld (k := .int .i64) (b := b8) (off := 1) (x := 513) (by rw [fa_mk]) tk rfl ?_
  have f3 : Rx.set X 513 ((0 : Nat) : Int) 513 = ((0, 5), X) := Rx.set_num hXb mB h513 (show (3 : Int) ≠ 4 by decide) (j := 0) (show (0 : Int) < 9 by decide) (by rw [hXc]; show (0 : Int) ∉ Rx.refsH [cl] hB; decide) (.inr ⟨by decide, h513⟩)
  refine en_failP (f3 ▸ op_set i q X Ib 513 ((0 : Nat) : Int) 513 (by decide)) tks ?_
  refine en_ld (k := .int .i64) (b := b10) (off := 1) (x := 514) (by rw [fa_mk]) tk rfl ?_
  have f4 : Rx.put X 514 ((0 : Nat) : Int) 1 = ((0, 5), X) := Rx.put_adr hXb mD h514 (show (2 : Int) ≠ 4 by decide) (j := 0) (show (0 : Int) < 9 by decide) (by rw [hXc]; exact upto9 (m := 0) (by decide)) 1
  refine en_failP (f4 ▸ op_put i q X Ib 514 ((0 : Nat) : Int) 1 (by decide)) tks ?_
  refine en_ld (k := .int .i64) (b := b6) (off := 1) (x := 512) (by rw [fa_mk]) tk rfl ?_
  have f5 : Rx.get X 512 4 = ((0, 1), X) := Rx.get_out hXb mA h512 (show (1 : Int) ≠ 4 by decide) (.inr (show (4 : Int) ≥ 4 by decide))
  refine en_failP (f5 ▸ op_get i q X Ib 512 4 0 (by decide)) tks ?_
  refine en_ld (k := .int .i64) (b := b6) (off := 1) (x := 512) (by rw [fa_mk]) tk rfl ?_
  have f6 : Rx.get X 512 (-1) = ((0, 1), X) := Rx.get_out hXb mA h512 (show (1 : Int) ≠ 4 by decide) (.inl (by decide))
  refine en_failP (f6 ▸ op_get i q X Ib 512 (-1) 0 (by decide)) tks ?_
  refine en_ld (k := .int .i64) (b := b10) (off := 1) (x := 514) (by rw [fa_mk]) tk rfl ?_
  have e9 : Rx.set X 514 m 0 = ((0, 0), { X with S := (Ob.put X.S d (m : Int) 0).2 }) := Rx.set_adr hXb mD h514 (show (2 : Int) ≠ 4 by decide) (j := m) (show (m : Int) < 9 by omega) (by rw [hXc]; exact upto9 hm9) (.inl ⟨rfl, rfl⟩)
  have I9 := Rx.set_inv Ib 514 m 0
  rw [e9] at I9
  dsimp only at I9
  refine en_isP (e9 ▸ op_set i q X Ib 514 m 0 (by decide)) tks ?_
  refine en_ld (k := .int .i64) (b := b10) (off := 1) (x := 514) (by rw [fa_mk]) tk rfl ?_
  have x9' : Bo (Ob.put X.S d (m : Int) 0).2 X.cs [⟨a, hA, [0, v, b, 0]⟩, ⟨b, hB, z9.set k v⟩, ⟨d, hD, (z9.set m a).set m 0⟩] := by rw [hXS, hXc]; exact x9.bo
  have f8 : Rx.get { X with S := (Ob.put X.S d (m : Int) 0).2 } 514 m = ((0, 0), { X with S := (Ob.put X.S d (m : Int) 0).2 }) := by
   rw [Rx.get_adr (x := { X with S := (Ob.put X.S d (m : Int) 0).2 }) (o := ⟨d, hD, (z9.set m a).set m 0⟩) x9' (by simp) h514 (show (2 : Int) ≠ 4 by decide) (j := m) (show (m : Int) < 9 by omega) (by show (m : Int) ∈ Rx.refsH X.cs hD; rw [hXc]; exact upto9 hm9), List.set_set, z9_get hm9]; rfl
  refine en_isP (f8 ▸ op_get i q { X with S := (Ob.put X.S d (m : Int) 0).2 } I9 514 m 0 (by decide)) tks ?_
  refine en_call (law_awake21) tks ?_
  rintro x' M ⟨rfl, rfl⟩
  try simp only [lca, lna]
  exact en_rets (x := true) rfl ⟨rfl, rfl⟩ tks ens
 ·intro J hJ
  refine en_drw (en_held [blk b6 [i64 0, i64 512], blk b10 [i64 0, i64 514]] tks ?_)
  refine en_ldS (k := .int .i64) (b := b6) (off := 1) (x := 512) (by rw [fa_mk]) tk rfl ?_
  refine en_ldS (k := .int .i64) (b := b10) (off := 1) (x := 514) (by rw [fa_mk]) tk rfl ?_
  obtain ⟨A1, h1⟩ : ∃ A : Asn, A = star (i.Q q (RZ [cl] [] 0 S7 [(0, a), (0, b), (0, d)] (List.replicate 16 0) [] [] 0 0)) := ⟨_, rfl⟩
  obtain ⟨A2, h2⟩ : ∃ A : Asn, A = star (i.Q q (RZ [cl] [] 0 S7 [(0, a), (0, b), (0, d), (0, b)] (List.replicate 16 0) [] [] 0 0)) := ⟨_, rfl⟩
  obtain ⟨A3, h3⟩ : ∃ A : Asn, A = star (i.Q q X) := ⟨_, rfl⟩
  have fin : ∀ (be bf : Nat) {LL : List Asn}, Takes LL [blk be [i64 0, i64 515], blk bf [i64 0, i64 516], blk b6 [i64 0, i64 512], blk b8 [i64 0, i64 513], blk b10 [i64 0, i64 514], A3] R → Tr ρ ρ LL (J (⟨be, 0, none⟩, ⟨bf, 0, none⟩, ())) (SP RB (fun r M => r = true ∧ M = []) R) := fun be bf LL t => by
   refine Tr.perm t.perm ?_
   subst h3
   refine Tr.openS (M := i.Q q X) tk ?_
   exact Tr.perm (Takes.perm (M := [blk be [i64 0, i64 515], blk bf [i64 0, i64 516], blk b6 [i64 0, i64 512], blk b8 [i64 0, i64 513], blk b10 [i64 0, i64 514]] ++ i.Q q X) tks) (hJ _ _ ⟨be, bf, rfl, rfl⟩)
  refine Tr.drop (A := blk b3 [i64 0, i64 1]) tk ?_
  refine Tr.close (M := i.Q q (RZ [cl] [] 0 S7 [(0, a), (0, b), (0, d)] (List.replicate 16 0) [] [] 0 0)) (A := A1) tks (fun h H => h1 ▸ H) ?_
  refine Tr.perm (Takes.perm (M := [blk b6 [i64 0, i64 512], blk b8 [i64 0, i64 513], blk b10 [i64 0, i64 514], A1]) tks) ?_
  simp only [lca, lna]
  have da1 := fun {L L' : List Asn} {K : RT G2 → Tree} {P : Value → List Asn → Prop} => en_dosS (ρ0 := ρ) (ρ := ρ) (L := L) (L' := L') (K := K) (Post := P) da h1 h2 (e := 0) (n := 515) rfl
  have db1 := fun {L L' : List Asn} {K : RT G2 → Tree} {P : Value → List Asn → Prop} => en_dosS (ρ0 := ρ) (ρ := ρ) (L := L) (L' := L') (K := K) (Post := P) db h2 h3 (e := 0) (n := 516) rfl
  clear da db h1 h2 h3 hXb hXh hXc hXS e4 e5 e6 e7 ea eb x3 x4 x5 x6 x7 I3 I4 I5 I6 I7 Ia Ib
  repeat' first
   | with_reducible refine en_both ?_ ?_
   | with_reducible refine en_chk tks ?_
   | with_reducible refine en_nw fun _ => ?_
   | with_reducible refine da1 tk ?_
   | with_reducible refine db1 tk ?_
  all_goals
   refine en_st (off := 0) rfl tk ?_ rfl ?_
   ·simp
   refine en_st (off := 0) rfl tk ?_ rfl ?_
   ·simp
   exact fin _ _ tks
end Go.Proofs.YtkljcopnaodfgaaGreat
