/- The law RtMakes. -/
import Derived.Test.YtkljcopnaodfgaaGreatGsMkb
import Derived.Test.YtkljcopnaodfgaaGreatGsTxRtMakes
set_option linter.unusedSimpArgs false
set_option linter.unusedVariables false
namespace Go.Proofs.YtkljcopnaodfgaaGreat
open Go Go.Gl
variable {ρ0 ρ : FR} {L L' : List Asn} {Post : Value → List Asn → Prop} {T : Tree}
theorem may_cls {f : Nat} (f1 : 1 ≤ f) (f2 : f ≤ 31) (l : List Int) : Ob.may [((f : Int), l)] ⟨1, 1, f, false⟩ = 0 := by
 have hm : Sp.mayH ⟨1, 1, f, false⟩ = true := by
  unfold Sp.mayH; dsimp only
  rw [decide_eq_true (by omega), if_pos rfl]; rfl
 unfold Ob.may
 rw [hm, if_neg (by rintro (g | g) <;> cases g), if_neg (fun g => g rfl)]
 show (match Sp.clsAt [((f : Int), l)] 1 with | some c => if c.1 ≠ (f : Int) then 1 else 0 | none => (2 : Int)) = 0
 rw [show Sp.clsAt [((f : Int), l)] 1 = some ((f : Int), l) from rfl]
 exact if_neg (fun g => g rfl)
theorem d_plain (i : Pl) (q : Nat) {x : Rt} {N a : Int} (I : x.Inv N) (hN : N + 10 < 2 ^ 49) (h : ¬ (1 ≤ a ∧ a ≤ x.cs.length)) : Dos ρ i q 2 a 0 0 x ((0, 2), x) :=
 Spec.post (op_plain i q x I a 0 0 hN) fun r M ⟨y, ⟨hy, _⟩, e1, e2⟩ => by
  unfold Rx.plainR at hy
  rw [if_neg h] at hy
  subst hy; exact ⟨e1, e2⟩
theorem d_list (i : Pl) (q : Nat) {x : Rt} {N k kind a : Int} (I : x.Inv N) (hN : N + 10 < 2 ^ 49) (hk : (k = 3 ∧ kind = 2) ∨ (k = 4 ∧ kind = 3)) (h : a < 0 ∨ a > 1023) : Dos ρ i q k a 0 0 x ((0, 1), x) :=
 Spec.post (op_list i q x I a 0 0 hN hk) fun r M ⟨y, ⟨hy, _⟩, e1, e2⟩ => by
  unfold Rx.listR at hy
  rw [if_pos h] at hy
  subst hy; exact ⟨e1, e2⟩
theorem d_refer (i : Pl) (q : Nat) {x : Rt} {N a b c o e : Int} (I : x.Inv N) (hN : N + 10 < 2 ^ 49) (h : Rx.hld x b false = (o, 0)) (he : Rx.refersE x a c = e) (e0 : e ≠ 0) : Dos ρ i q 11 a b c x ((0, e), x) :=
 Spec.post (op_refer i q x I a b c hN) fun r M ⟨y, ⟨hy, _⟩, e1, e2⟩ => by
  unfold Rx.referR at hy
  rw [h, he, if_neg (fun g => g rfl), if_pos e0] at hy
  subst hy; exact ⟨e1, e2⟩
theorem class_bad {x : Rt} {a b : Int} (h : b < 0 ∨ b ≥ 4294967296 ∨ Sp.mayC a (Rx.bits b 32) = false) : Rx.class' x a b = ((0, 1), x) := by
 unfold Rx.class'
 by_cases hb : b < 0 ∨ b ≥ 4294967296
 ·rw [if_pos hb]
 ·rw [if_neg hb]
  have hm : Sp.mayC a (Rx.bits b 32) = false := by rcases h with h | h | h; exact absurd (.inl h) hb; exact absurd (.inr h) hb; exact h
  have : Sp.addC x.cs (a, Rx.bits b 32) = (0, 1, x.cs) := by unfold Sp.addC; rw [if_pos (by show ¬ Sp.mayC a (Rx.bits b 32) = true; rw [hm]; simp)]
  rw [this]
theorem mayC_num {a : Int} (h : a < 0 ∨ a > 1023) (l : List Int) : Sp.mayC a l = false := by
 unfold Sp.mayC
 rcases h with h | h
 ·rw [if_pos h]
 ·rw [if_neg (by omega), if_pos h]
theorem law_rtmakes (a0 b0 d0 : Int) (ha : 0 ≤ a0 ∧ a0 < 256) (hb : 0 ≤ b0 ∧ b0 < 256) : Gl.Spec ρ Tryz.prog 8 [.int .u8 a0, .int .u8 b0, i64 d0] [] RB fun r M => r = true ∧ M = [] := by
 refine Gl.Spec.of (fun Q w h => F.gloaminglaw21.RtMakes.calls a0 b0 d0 h) fun R => ?_
 unfold F.gloaminglaw21.RtMakes
 rw [wrap64 (n := a0) (by omega) (by omega), wrap64 (n := b0) (by omega) (by omega), Int.tmod_eq_emod_of_nonneg ha.1, wrap64 (n := 1 + a0 % 31) (by omega) (by omega)]
 obtain ⟨f, hf, f1, f2⟩ : ∃ f : Nat, 1 + a0 % 31 = (f : Int) ∧ 1 ≤ f ∧ f ≤ 31 := ⟨(1 + a0 % 31).toNat, by omega, by omega, by omega⟩
 have hmin : (if (8 : Int) < (f : Int) then (8 : Int) else (f : Int)) = ((min f 8 : Nat) : Int) := by split <;> omega
 rw [hf, Int.toNat_natCast, hmin]
 obtain ⟨⟨m1, m2⟩, m3, m4⟩ := Mkb.fact f1 f2 hb.1 hb.2
 have hM : ibits .and .i64 b0 (IntKind.wrap .i64 (IntKind.wrap .i64 (1 * 2 ^ (min f (IntKind.bits .i64))) - 1)) = Mkb.M f b0 := rfl
 rw [hM]
 clear hM
 generalize Mkb.M f b0 = m at *
 refine en_call law_fresh .nil ?_
 rintro _ _ ⟨i, q, rfl, rfl⟩
 rw [rz_new, zcAns]
 try simp only [lca, lna]
 refine en_brf rfl (en_need (by decide) (en_need (by omega) ?_))
 obtain ⟨c1, c2, c3⟩ := z_class rz_inv0 (a := (f : Int)) (b := m) (c := ((f : Int), Rx.bits m 32)) ⟨m1, m2⟩ (Mkb.addC_is f2 m3)
 generalize Rx.bits m 32 = l at *
 refine en_dos (c1 ▸ op_class i q _ rz_inv0 (f : Int) m 0) tks ?_
 try simp only [lca, lna]
 refine en_nw fun b3 => ?_
 refine en_st (b := b3) (off := 0) rfl tk (by simp) rfl ?_
 refine en_ld (k := .int .i64) (b := b3) (off := 1) (x := 1) (by rw [fa_mk]) tk rfl ?_
 refine en_call (law_do (z_plain i q (new_bx.cls c3) c2 (by decide) (by simp) (by decide) (by decide) 1 0 0 ⟨by decide, by show (1 : Int) ≤ 1; decide⟩ (n := (f : Int)) rfl (may_cls f1 f2 l) (by omega) (by omega) (hd := 512) rfl)) tks ?_
 rintro _ _ ⟨o, S1, rfl, ho, x1, I1, rfl⟩
 try simp only [lca, lna]
 refine en_nw fun b6 => ?_
 refine en_st (b := b6) (off := 0) rfl tk (by simp) rfl ?_
 refine en_ldg (b := b3) (x := ((0 : Int), (1 : Int), ())) [] rfl tk rfl ?_
 refine en_is (en_brf rfl ?_)
 refine en_ld (k := .int .i64) (b := b6) (off := 0) (x := 0) (by rw [fa_mk]) tk rfl ?_
 refine en_call (law_err 0) tks ?_
 rintro x' M ⟨rfl, rfl⟩
 try simp only [lca, lna]
 refine en_brf rfl ?_
 have hh := Hn.hs_held (l := [(0, o)]) (j := 0) (t := 0) (a := o) (x := 512) rfl (by omega) (by decide) (show 1 ≤ 512 by decide) (by decide)
 change Bx S1 [((f : Int), l)] 60 [⟨o, ⟨1, 1, f, false⟩, List.replicate ((f : Int)).toNat 0⟩] at x1
 have hR : ∀ j : Int, j ∈ Rx.refsH [((f : Int), l)] ⟨1, 1, f, false⟩ ↔ j ∈ l := fun j => Iff.rfl
 generalize List.replicate ((f : Int)).toNat (0 : Int) = ws at *
 change (RZ [((f : Int), l)] [] 0 S1 [(0, o)] (List.replicate 16 0) [] [] 0 0).Inv (0 + 10) at I1
 refine Tr.drop (A := blk b3 _) tk ?_
 refine Tr.perm (Takes.perm (M := blk b6 [i64 0, i64 512] :: i.Q q (RZ [((f : Int), l)] [] 0 S1 [(0, o)] (List.replicate 16 0) [] [] 0 0)) tks) ?_
 refine en_lp (I := fun n u M => ∃ (j : Nat) (S : Spc) (ws : List Int) (x : Rt), x = RZ [((f : Int), l)] [] 0 S [(0, o)] (List.replicate 16 0) [] [] 0 0 ∧ j ≤ min f 8 ∧ n = min f 8 - j ∧ u = ((j : Int), ()) ∧ Bx S [((f : Int), l)] 60 [⟨o, ⟨1, 1, f, false⟩, ws⟩] ∧ x.Inv (0 + 10) ∧
  M = blk b6 [i64 0, i64 512] :: i.Q q x ++ R) (min f 8) ⟨0, S1, ws, _, rfl, Nat.zero_le _, rfl, rfl, x1, I1, rfl⟩ ?_
 rintro n _ _ ⟨j, S, ws, x, hx, hj, rfl, rfl, x2, I2, rfl⟩ X hX
 dsimp only
 try simp only [lca, lna]
 refine en_br (fun hlt => ?_) (fun hlt => ?_)
 ·have hlt : (j : Int) < ((min f 8 : Nat) : Int) := of_decide_eq_true hlt
  have hjf : j < min f 8 := by omega
  subst hx
  refine en_need (by omega) ?_
  rw [Int.toNat_natCast]
  have hbit : ((ibits .and .i64 (Int.fdiv b0 (2 ^ (min j (IntKind.bits .i64)))) 1 : Int) == 1) = Rx.bit b0 j := rfl
  rw [hbit]
  have hm4 := m4 j hjf
  rw [wrap64 (n := (j : Int) + 1) (by omega) (by omega)]
  cases hb : Rx.bit b0 j with
  | true =>
   have hmem : (j : Int) ∈ l := hm4.mpr hb
   refine en_brt rfl ?_
   refine en_ld (k := .int .i64) (b := b6) (off := 1) (x := 512) (by rw [fa_mk]) tk rfl ?_
   have e4 := Rx.put_adr (x := RZ [((f : Int), l)] [] 0 S [(0, o)] (List.replicate 16 0) [] [] 0 0) (o := ⟨o, ⟨1, 1, f, false⟩, ws⟩) x2.bo (by simp) hh (show (1 : Int) ≠ 4 by decide) (j := j) (show (j : Int) < f by omega) ((hR j).mpr hmem) 1
   refine en_failN (e4 ▸ op_put i q _ I2 512 (j : Int) 1 (by decide)) tks ?_
   refine en_brf rfl ?_
   refine Tr.perm (Takes.perm (M := blk b6 [i64 0, i64 512] :: i.Q q (RZ [((f : Int), l)] [] 0 S [(0, o)] (List.replicate 16 0) [] [] 0 0)) tks) ?_
   exact hX (min f 8 - (j + 1)) _ _ (by omega) ⟨j + 1, S, ws, _, rfl, by omega, rfl, rfl, x2, I2, rfl⟩
  | false =>
   have hmem : (j : Int) ∉ l := fun g => by rw [hm4.mp g] at hb; cases hb
   refine en_brf rfl (en_brt rfl ?_)
   refine en_ld (k := .int .i64) (b := b6) (off := 1) (x := 512) (by rw [fa_mk]) tk rfl ?_
   have e4 := Rx.put_num (x := RZ [((f : Int), l)] [] 0 S [(0, o)] (List.replicate 16 0) [] [] 0 0) (o := ⟨o, ⟨1, 1, f, false⟩, ws⟩) x2.bo (by simp) hh (show (1 : Int) ≠ 4 by decide) (j := j) (show (j : Int) < f by omega) (fun g => hmem ((hR j).mp g)) 1
   refine en_isN (e4 ▸ op_put i q _ I2 512 (j : Int) 1 (by decide)) tks ?_
   have I3 := Rx.put_inv I2 512 (j : Int) 1
   change (Rx.put (RZ [((f : Int), l)] [] 0 S [(0, o)] (List.replicate 16 0) [] [] 0 0) 512 (j : Int) 1).2.Inv _ at I3
   rw [e4] at I3
   have x3 := (x2.put (i := 0) rfl (k := j) (show (j : Int) < f by omega) 1).2
   dsimp only at I3 x3 ⊢
   generalize (Ob.put S o (j : Int) 1).2 = S' at *
   refine Tr.perm (Takes.perm (M := blk b6 [i64 0, i64 512] :: i.Q q (RZ [((f : Int), l)] [] 0 S' [(0, o)] (List.replicate 16 0) [] [] 0 0)) tks) ?_
   exact hX (min f 8 - (j + 1)) _ _ (by omega) ⟨j + 1, S', ws.set j 1, _, rfl, by omega, rfl, rfl, x3, I3, rfl⟩
 clear hX X hj
 have hcs : x.cs.length = 1 := by rw [hx]; rfl
 have hrw : x.rows = [] := by rw [hx]
 have hld : Rx.hld x 512 false = (o, 0) := by
  unfold Rx.hld
  rw [if_neg (fun g => by cases g.1), hx]; exact hh
 clear hx x2
 refine en_jn (fun u M => ∃ odd : Int, u = (odd, ()) ∧ odd ≠ 1 ∧ M = blk b6 [i64 0, i64 512] :: i.Q q x ++ R) ?_ ?_
 ·rintro _ _ ⟨odd, rfl, hodd, rfl⟩
  dsimp only
  try simp only [lca, lna]
  have lo : (if (-1 : Int) < odd then (-1 : Int) else odd) < 0 := by split <;> omega
  have hi : (if (1024 : Int) > odd then (1024 : Int) else odd) > 1023 := by split <;> omega
  generalize (if (-1 : Int) < odd then (-1 : Int) else odd) = low at *
  generalize (if (1024 : Int) > odd then (1024 : Int) else odd) = high at *
  have po : 0 ≤ (if (0 : Int) > odd then (0 : Int) else odd) := by split <;> omega
  generalize (if (0 : Int) > odd then (0 : Int) else odd) = qu at *
  refine en_failP (d_plain i q I2 (by decide) (by rw [hcs]; omega)) tks ?_
  refine en_failP (d_list i q I2 (by decide) (.inr ⟨rfl, rfl⟩) (.inl lo)) tks ?_
  refine en_failP (d_list i q I2 (by decide) (.inl ⟨rfl, rfl⟩) (.inr hi)) tks ?_
  refine en_failP ((class_bad (x := x) (a := low) (b := 0) (.inr (.inr (mayC_num (.inl lo) _)))) ▸ op_class i q x I2 low 0 0) tks ?_
  refine en_failP ((class_bad (x := x) (a := high) (b := 0) (.inr (.inr (mayC_num (.inr hi) _)))) ▸ op_class i q x I2 high 0 0) tks ?_
  refine en_failP ((class_bad (x := x) (a := 3) (b := low) (.inl lo)) ▸ op_class i q x I2 3 low 0) tks ?_
  refine en_failP ((class_bad (x := x) (a := 3) (b := 8) (.inr (.inr (by kernel_rfl)))) ▸ op_class i q x I2 3 8 0) tks ?_
  refine en_failP ((class_bad (x := x) (a := 40) (b := 4294967296) (.inr (.inl (by decide)))) ▸ op_class i q x I2 40 4294967296 0) tks ?_
  have ep : Rx.poll x qu = ((0, 2), x) := by
   unfold Rx.poll
   rw [if_pos (by unfold Qu.has; rw [hrw]; exact decide_eq_false (by rintro ⟨_, g⟩; change qu < 0 at g; omega))]
  refine en_failP (ep ▸ op_poll i q x I2 qu 0 0 (by decide)) tks ?_
  refine en_ld (k := .int .i64) (b := b6) (off := 1) (x := 512) (by rw [fa_mk]) tk rfl ?_
  refine en_failP (d_refer i q (a := 3) (b := 512) (c := -1) I2 (by decide) hld (by unfold Rx.refersE; rw [hrw]; decide) (by decide)) tks ?_
  refine en_ld (k := .int .i64) (b := b6) (off := 1) (x := 512) (by rw [fa_mk]) tk rfl ?_
  refine en_failP (d_refer i q (a := 4) (b := 512) (c := -1) I2 (by decide) hld (by unfold Rx.refersE; rw [hrw]; decide) (by decide)) tks ?_
  refine en_ld (k := .int .i64) (b := b6) (off := 1) (x := 512) (by rw [fa_mk]) tk rfl ?_
  refine en_failP (d_refer i q (a := 2) (b := 512) (c := 0) I2 (by decide) hld (by unfold Rx.refersE; rw [hrw]; decide) (by decide)) tks ?_
  refine en_call (law_awake21) tks ?_
  rintro x' M ⟨rfl, rfl⟩
  try simp only [lca, lna]
  exact en_rets (x := true) rfl ⟨rfl, rfl⟩ tks ens
 ·intro J hJ
  refine en_br (fun e => ?_) (fun e => ?_)
  ·exact hJ _ _ ⟨2, rfl, by decide, rfl⟩
  ·exact hJ _ _ ⟨d0, rfl, by simpa using e, rfl⟩
end Go.Proofs.YtkljcopnaodfgaaGreat
