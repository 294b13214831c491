/- The law RtCounts. -/
import Derived.Test.YtkljcopnaodfgaaGreatGsRtB
import Derived.Test.YtkljcopnaodfgaaGreatGsTxRtCounts
set_option linter.unusedSimpArgs false
set_option linter.unusedVariables false
namespace Go.Proofs.YtkljcopnaodfgaaGreat
open Go Go.Gl
variable {ρ0 ρ : FR} {L L' : List Asn} {Post : Value → List Asn → Prop} {T : Tree}
theorem z_big {N : Int} {S : Spc} {l : List Hn.Slot} {ro : List Int} (hw : HWf S []) {m : Nat} (hp : Pfx S.pg m) (hpg : S.pg.length = 60) (hm : m + 2 ≤ 60) (hl : ∀ e ∈ l, e.2 ≠ 0) (hl5 : l.length < 512) {n : Int} (n0 : 0 ≤ n) (n1 : n < 100) {y : Ans2}
  (hy : Rx.MadeR (Rx.mk ⟨3, 0, n, false⟩) (RZ [] [] 0 S l ro [] [] 0 0) y) :
  ∃ (a : Int) (S' : Spc), y = ((((l.length : Nat) : Int) + 512, 0), RZ [] [] 0 S' (l ++ [(0, a)]) ro [] [] 0 0) ∧ 0 < a ∧ HWf S' [] ∧ (∃ m', Pfx S'.pg m' ∧ m' ≤ m + 2) ∧ S'.pg.length = 60 ∧ (Sp.each S').length = (Sp.each S).length + 1 := by
 have hnd : Sp.need (n + 1) ≤ 2 := need2 (by omega) (by omega)
 obtain ⟨h0, ⟨m', p1, p2⟩, p3⟩ := make_pfx (h := ⟨3, 0, n, false⟩) hw hp (may_data [] n0 (by omega)) (by dsimp only; omega)
 dsimp only at p2
 have hh := Ob.make_head hw h0
 have hne : (Ob.make S [] ⟨3, 0, n, false⟩).1 ≠ 0 := fun e => by
  rw [e] at hh
  exact Mk.obj_zero (hw.make _) (by unfold Mk.obj; rw [hh]; rfl)
 obtain ⟨k, w, ek, _⟩ := Ob.head_is (hw.make _) hh
 have hpos : 0 < (Ob.make S [] ⟨3, 0, n, false⟩).1 := by omega
 have hf : Hn.free (Hn.Hs l) ≠ none := by rw [Hn.hs_free hl hl5]; simp
 have := Rx.made_ok hy hf h0
 obtain ⟨g1, g2⟩ := Rx.give_new (x := (Rx.mk ⟨3, 0, n, false⟩ (RZ [] [] 0 S l ro [] [] 0 0)).2) (l := l) rfl hl hl5 (a := (Ob.make S [] ⟨3, 0, n, false⟩).1) hpos
 change y = (Rx.giveR (Rx.mk ⟨3, 0, n, false⟩ (RZ [] [] 0 S l ro [] [] 0 0)).2 (Ob.make S [] ⟨3, 0, n, false⟩).1, Rx.giveS (Rx.mk ⟨3, 0, n, false⟩ (RZ [] [] 0 S l ro [] [] 0 0)).2 (Ob.make S [] ⟨3, 0, n, false⟩).1) at this
 rw [g1, g2] at this
 exact ⟨_, (Ob.make S [] ⟨3, 0, n, false⟩).2.2, this, hpos, hw.make _, ⟨m', p1, by omega⟩, by omega, by rw [(each_make hw h0).length_eq]; rfl⟩
theorem d_collect0 (i : Pl) (q : Nat) {x : Rt} {N a : Int} (I : x.Inv N) (hN : N + 1 < 2 ^ 50) (h : a ≠ 0 ∧ a ≠ 1) : Dos ρ i q 19 a 0 0 x ((0, 1), x) :=
 Spec.post (op_collect i q x I a 0 0 hN) fun r M ⟨y, hy, e1, e2⟩ => by
  unfold Rx.CollectR at hy
  dsimp only at hy
  rw [if_pos h] at hy
  subst hy; exact ⟨e1, e2⟩
theorem law_rtcounts (s : Slc) (l : List Int) (d0 : Int) (ro : RoS ρ s 1 (l.map fun x => .int .u8 x)) (hb : ∀ x ∈ l, (Lit.int .u8 x).wf = true) (_ : l.length < 2 ^ 63) : Gl.Spec ρ Tryz.prog 12 [.slice s.a s.n s.c, i64 d0] [] RB fun r M => r = true ∧ M = [] := by
 refine Gl.Spec.of (fun Q w h => F.gloaminglaw21.RtCounts.calls s d0 h) fun R => ?_
 unfold F.gloaminglaw21.RtCounts
 have hsn : s.n = l.length := by have := ro.1; simpa using this.symm
 obtain ⟨K, hK, hK20⟩ : ∃ K : Nat, K = min 20 l.length ∧ K ≤ 20 := ⟨_, rfl, by omega⟩
 have hmin : (if (20 : Int) < ((s.n : Nat) : Int) then (20 : Int) else ((s.n : Nat) : Int)) = (K : Int) := by split <;> omega
 rw [hmin]
 refine en_call law_fresh .nil ?_
 rintro _ _ ⟨i, q, rfl, rfl⟩
 rw [rz_new, zcAns]
 refine en_brf rfl ?_
 have hall := u8_all hb
 have b0 := new_bx
 obtain ⟨m0, p0, pm0⟩ := b0.pfx
 refine en_lp (I := fun n u M => ∃ (j : Nat) (S : Spc) (hl : List Hn.Slot) (x : Rt) (m : Nat), x = RZ [] [] 0 S hl (List.replicate 16 0) [] [] 0 0 ∧ j ≤ K ∧ n = K - j ∧ u = ((j : Int), ()) ∧ HWf S [] ∧ Pfx S.pg m ∧ m ≤ 1 + 2 * j ∧ S.pg.length = 60 ∧ (Sp.each S).length = j ∧ hl.length = j ∧ (∀ e ∈ hl, e.2 ≠ 0) ∧ x.Inv (10 * j) ∧
  M = i.Q q x ++ R) K ⟨0, Sp.newSpc 60, [], _, m0, rfl, Nat.zero_le _, rfl, rfl, b0.hw, p0, by simpa using pm0, b0.pgs, by rw [b0.each.length_eq]; rfl, rfl, by simp, by simpa using rz_inv0, rfl⟩ ?_
 rintro n _ _ ⟨j, S, hl, x, m, hx, hj, rfl, rfl, hw, hp, hm, hpg, hea, hll, hne, I, rfl⟩ X hX
 dsimp only
 try simp only [lca, lna]
 refine en_br (fun hlt => ?_) (fun hlt => ?_)
 ·have hlt : (j : Int) < (K : Int) := of_decide_eq_true hlt
  have hv := u8_getD hall j
  refine en_ixRo ro (by omega) (by omega) fun a0 ha0 => ?_
  refine en_ldRo (k := .int .u8) (j := j) (x := l.getD j 0) ha0 ro (by rintro b o rfl; rw [fa_mk]; simp) (by rw [List.getElem?_map, List.getD_eq_getElem?_getD, List.getElem?_eq_getElem (by omega)]; rfl) ?_
  generalize l.getD j 0 = v at *
  refine en_need (by decide) ?_
  rw [wrap64 (n := v) (by omega) (by omega), Int.tmod_eq_emod_of_nonneg hv.1, wrap64 (n := (j : Int) + 1) (by omega) (by omega)]
  refine en_call (law_do (op_list i q x I (v % 90) 0 0 (by omega) (.inr ⟨rfl, rfl⟩))) tks ?_
  rintro _ _ ⟨y, ⟨hy, Iy⟩, rfl, rfl⟩
  unfold Rx.listR at hy
  rw [if_neg (by omega), hx] at hy
  obtain ⟨a, S', rfl, ha, hw', ⟨m', hp', hm'⟩, hpg', hea'⟩ := z_big (N := 0) hw hp hpg (by omega) hne (by omega) (by omega) (by omega) hy
  try simp only [lca, lna]
  refine en_call (law_err 0) tks ?_
  rintro x' M ⟨rfl, rfl⟩
  try simp only [lca, lna]
  refine en_brf rfl ?_
  refine Tr.perm (Takes.perm (M := i.Q q (RZ [] [] 0 S' (hl ++ [(0, a)]) (List.replicate 16 0) [] [] 0 0)) tks) ?_
  refine hX (K - (j + 1)) _ _ (by omega) ⟨j + 1, S', hl ++ [(0, a)], _, m', rfl, by omega, rfl, rfl, hw', hp', by omega, hpg', by omega, by simp; omega, ?_, by rw [show (10 : Int) * ((j + 1 : Nat) : Int) = 10 * j + 10 by omega]; exact Iy, rfl⟩
  intro e he
  rcases List.mem_append.mp he with he | he
  ·exact hne e he
  ·rw [List.mem_singleton] at he; subst he; exact Int.ne_of_gt ha
 have hlt : ¬ (j : Int) < (K : Int) := of_decide_eq_false hlt
 obtain rfl : j = K := by omega
 clear hX X
 have hck : x.ck = 0 := by rw [hx]
 have hxS : x.S = S := by rw [hx]
 have hpe : x.pe = [] := by rw [hx]
 clear hx
 subst hxS
 have hfree : x.free = 3776 - x.used := by
  unfold Rt.free
  have := hw.wf.len
  omega
 have hN : (10 : Int) * ((j : Nat) : Int) < 2 ^ 40 := by omega
 have ec0 : Rx.count x 0 = ((x.used, 0), x) := by unfold Rx.count; rw [if_neg (by decide)]; rfl
 have ec1 : Rx.count x 1 = ((x.free, 0), x) := by unfold Rx.count; rw [if_neg (by decide)]; rfl
 refine en_dos (ec0 ▸ op_count i q x I 0 0 0 (by omega)) tks ?_
 try simp only [lca, lna]
 refine en_dos (ec1 ▸ op_count i q x I 1 0 0 (by omega)) tks ?_
 try simp only [lca, lna]
 refine en_nw fun b6 => en_nw fun b7 => ?_
 refine en_st (b := b6) (off := 0) rfl tk (by simp) rfl ?_
 refine en_st (b := b7) (off := 0) rfl tk (by simp) rfl ?_
 refine en_jn (fun u M => ∃ bad : Int, u = (bad, ()) ∧ ¬ (0 ≤ bad ∧ bad ≤ 4) ∧ M = [blk b6 [i64 0, i64 x.used], blk b7 [i64 0, i64 x.free]] ++ (i.Q q x ++ R)) ?_ ?_
 ·rintro _ _ ⟨bad, rfl, hbad, rfl⟩
  dsimp only
  try simp only [lca, lna]
  have lo : (if (-1 : Int) < bad then (-1 : Int) else bad) < 0 := by split <;> omega
  generalize (if (-1 : Int) < bad then (-1 : Int) else bad) = low at *
  have et : Rx.tick x low = ((0, 1), x) := by unfold Rx.tick; rw [if_pos lo]
  refine en_dos (et ▸ op_tick i q x I low 0 0 (by omega) (by omega)) tks ?_
  try simp only [lca, lna]
  refine en_nw fun b11 => ?_
  refine en_st (b := b11) (off := 0) rfl tk (by simp) rfl ?_
  have l1 : Sf.later x.ck (j : Int) = (j : Int) := by rw [hck]; unfold Sf.later Sf.none; rw [if_neg (by decide)]; split <;> omega
  have et2 : Rx.tick x (j : Int) = ((0, 0), { x with ck := (j : Int) }) := by unfold Rx.tick; rw [if_neg (by omega), l1]
  have I2 := Rx.tick_inv I (a := (j : Int)) (by omega)
  rw [et2] at I2
  refine en_dos (et2 ▸ op_tick i q x I (j : Int) 0 0 (by omega) (by omega)) tks ?_
  dsimp only at I2 ⊢
  have hu2 : ({ x with ck := (j : Int) } : Rt).used = x.used := rfl
  have hea2 : ((Sp.each ({ x with ck := (j : Int) } : Rt).S).length : Nat) = j := hea
  have hck2 : ({ x with ck := (j : Int) } : Rt).ck = j := rfl
  generalize ({ x with ck := (j : Int) } : Rt) = x2 at *
  try simp only [lca, lna]
  refine en_nw fun b13 => ?_
  refine en_st (b := b13) (off := 0) rfl tk (by simp) rfl ?_
  refine en_nn ?_
  refine en_ld (k := .ptr) (b := q) (off := 0) (x := some ⟨i.p, 0, none⟩) (by rw [fa_mk]) tk rfl ?_
  refine en_call (gc_view i x2 (I2.ok (by omega))) tks ?_
  rintro _ _ ⟨so, sh, sr, sq, sf, sp, lv, rfl, _, _, _, rfl⟩
  try simp only [lca, lna]
  refine en_nw fun b17 => ?_
  rw [zcView, hck2, hu2]
  refine en_st (b := b17) (off := 0) rfl tk (by simp) rfl ?_
  refine en_ld (k := .int .i64) (b := b6) (off := 1) (x := x.used) (by rw [fa_mk]) tk rfl ?_
  refine en_ld (k := .int .i64) (b := b7) (off := 1) (x := x.free) (by rw [fa_mk]) tk rfl ?_
  refine en_brt (by rw [hfree, show x.used + (3776 - x.used) = 3776 by omega, wrap64 (by decide) (by decide)]; rfl) ?_
  refine en_ld (k := .int .i64) (b := b6) (off := 1) (x := x.used) (by rw [fa_mk]) tk rfl ?_
  refine en_ld (k := .int .i64) (b := b17) (off := 8) (x := x.used) (by rw [fa_mk]) tk rfl ?_
  refine en_brt (by simp) ?_
  have ec3 : Rx.count x2 3 = (((j : Int), 0), x2) := by
   unfold Rx.count; rw [if_neg (by decide)]
   show (((((Sp.each x2.S).length : Nat) : Int), (0 : Int)), x2) = _
   rw [hea2]
  refine en_isP (ec3 ▸ op_count i q x2 I2 3 0 0 (by omega)) tks ?_
  have ecb : Rx.count x2 bad = ((0, 1), x2) := by unfold Rx.count; rw [if_pos (by omega)]
  refine en_failP (ecb ▸ op_count i q x2 I2 bad 0 0 (by omega)) tks ?_
  refine en_ldg (b := b11) (x := ((1 : Int), (0 : Int), ())) [] rfl tk rfl ?_
  refine en_fails (en_brt rfl ?_)
  refine en_ldg (b := b13) (x := ((0 : Int), (0 : Int), ())) [] rfl tk rfl ?_
  refine en_is (en_brt rfl ?_)
  refine en_ld (k := .int .i64) (b := b17) (off := 6) (x := (j : Int)) (by rw [fa_mk]) tk rfl ?_
  refine en_brt (by simp) ?_
  refine en_failP (d_collect0 i q I2 (by omega) (by omega)) tks ?_
  refine en_call (law_awake21) tks ?_
  rintro x' M ⟨rfl, rfl⟩
  try simp only [lca, lna]
  exact en_rets (x := true) rfl ⟨rfl, rfl⟩ tks ens
 ·intro J hJ
  have nxt : ∀ (bad : Int) {LL : List Asn}, LL.Perm ([blk b6 [i64 0, i64 x.used], blk b7 [i64 0, i64 x.free]] ++ (i.Q q x ++ R)) → ¬ (0 ≤ bad ∧ bad ≤ 4) → Tr ρ ρ LL (J (bad, ())) _ := fun bad LL hp hh => Tr.perm hp (hJ _ _ ⟨bad, rfl, hh, rfl⟩)
  refine en_br (fun e1 => ?_) (fun e1 => ?_)
  ·refine en_br (fun e2 => ?_) (fun e2 => ?_)
   ·exact nxt 5 (Takes.perm tks) (by omega)
   ·exact nxt d0 (Takes.perm tks) (by have := of_decide_eq_false e2; omega)
  ·exact nxt d0 (Takes.perm tks) (by have := of_decide_eq_false e1; omega)
end Go.Proofs.YtkljcopnaodfgaaGreat
