/- The law GcQueues. -/
import Derived.Test.YtdplphebjhfliaaGreatGsQs
import Derived.Test.YtdplphebjhfliaaGreatGsTxGcQueues
set_option linter.unusedSimpArgs false
set_option linter.unusedVariables false
namespace Go.Proofs.YtdplphebjhfliaaGreat
open Go Go.Gl
variable {ρ0 ρ : FR} {L L' : List Asn} {Post : Value → List Asn → Prop} {T : Tree}
abbrev two (z a0 a1 : Slc) : Asn := SLc z 1 [.slice a0.a a0.n a0.c, .slice a1.a a1.n a1.c]
theorem en_app2 {tt ty : TypeId} {ts : Array TypeId} {z a0 a1 : Slc} {X0 X1 : List Int} {c v : Int} {k : Tree} (hok : appB Tryz.prog ts 1 8 = true) (hc : c = 0 ∨ c = 1) (hz : z.n = 2) (h0 : X0.length < 2 ^ 40) (h1 : X1.length < 2 ^ 40) {L1 L2 : List Asn}
  (t : Take L (two z a0 a1) L1) (t1 : Take L1 (SLc a0 1 (X0.map i64)) L2) (t2 : Take L2 (SLc a1 1 (X1.map i64)) L')
  (h : ∀ b0 b1 : Slc, Tr ρ0 ρ (two z b0 b1 :: SLc b0 1 ((X0 ++ if c = 0 then [v] else []).map i64) :: SLc b1 1 ((X1 ++ if c = 1 then [v] else []).map i64) :: L') k Post) :
  Tr ρ0 ρ L (ix z.a z.n c 1 fun a => ld (.l .slice) a fun x => nw tt [.int .i64 v] fun b => opr Tryz.prog (Builtin.append_ ts ty #[.slice x.a x.n x.c, .slice (some ⟨b, 0, none⟩) 1 1]) (.one (.l .slice)) fun (r : Slc) => ix z.a z.n c 1 fun a' => st a' [.slice r.a r.n r.c] k) Post := by
 refine Tr.perm (Takes.perm (M := [two z a0 a1, SLc a0 1 (X0.map i64), SLc a1 1 (X1.map i64)]) (.cons t (.cons t1 (.cons t2 .nil)))) ?_
 rcases hc with rfl | rfl
 ·refine en_ixSL (s := z) (m := 1) .here (by decide) (by omega) fun y0 hy0 => ?_
  refine en_ldSL (k := .slice) (s := z) (m := 1) (j := 0) (x := a0) hy0 .here (by rintro b' o' rfl; rw [fa_mk]; rfl) rfl ?_
  refine en_appI (s := a0) (xs := X0) hok (.skip .here) h0 fun r _ => ?_
  refine en_ixSL (s := z) (m := 1) (.skip .here) (by decide) (by omega) fun y1 hy1 => ?_
  refine en_stSL (s := z) (m := 1) (j := 0) hy1 (.skip .here) (by rintro b' o' rfl; rw [fa_mk]; rfl) (by show 0 + 1 ≤ 2; decide) rfl ?_
  have := h r a1
  rw [if_pos rfl, if_neg (by decide), List.append_nil] at this
  exact this
 ·refine en_ixSL (s := z) (m := 1) .here (by decide) (by omega) fun y0 hy0 => ?_
  refine en_ldSL (k := .slice) (s := z) (m := 1) (j := 1) (x := a1) hy0 .here (by rintro b' o' rfl; rw [fa_mk]; rfl) rfl ?_
  refine en_appI (s := a1) (xs := X1) hok (.skip (.skip .here)) h1 fun r _ => ?_
  refine en_ixSL (s := z) (m := 1) (.skip .here) (by decide) (by omega) fun y1 hy1 => ?_
  refine en_stSL (s := z) (m := 1) (j := 1) hy1 (.skip .here) (by rintro b' o' rfl; rw [fa_mk]; rfl) (by show 1 + 1 ≤ 2; decide) rfl ?_
  have := h a0 r
  rw [if_neg (by decide), if_pos rfl, List.append_nil] at this
  exact Tr.perm (Takes.perm (M := [two z a0 r, SLc a0 1 (X0.map i64), SLc r 1 ((X1 ++ [v]).map i64)]) tks) this
theorem zcSl : (Tryz.prog.info? 34).map (fun i => (i.size, i.bytes, i.zero)) = some (1, 24, some (.slice none 0 0)) := by kernel_rfl
namespace Qs
def rw2 (vs l : List Int) (q i : Nat) : List (List Int) := [0, 1].map fun c : Nat => ((if c < q then [] else if c = q then (wt vs l.length c).drop i else wt vs l.length c) : List Nat).map fun j => l.getD j 0
theorem rw2_len {vs l : List Int} {q i : Nat} : (rw2 vs l q i).length = 2 := rfl
theorem rw2_next {vs l : List Int} {q : Nat} {i : Nat} (h : (wt vs l.length q).length ≤ i) : rw2 vs l q i = rw2 vs l (q + 1) 0 := by
 unfold rw2
 refine List.map_congr_left fun c hc => ?_
 congr 1
 by_cases h1 : c < q
 ·rw [if_pos h1, if_pos (by omega)]
 ·rw [if_neg h1]
  by_cases h2 : c = q
  ·subst h2
   rw [if_pos rfl, if_pos (by omega), List.drop_of_length_le h]
  ·rw [if_neg h2, if_neg (by omega)]
   split
   ·rw [List.drop_zero]
   ·rfl
theorem rw2_at {vs l : List Int} {q i : Nat} (hq : q < 2) : Qu.has (rw2 vs l q i) q = true ∧ Qu.row (rw2 vs l q i) q = ((wt vs l.length q).drop i).map fun j => l.getD j 0 := by
 refine ⟨by unfold Qu.has; rw [rw2_len, decide_eq_true_iff]; omega, ?_⟩
 unfold Qu.row
 rw [Int.toNat_natCast]
 match q, hq with
 | 0, _ => rfl
 | 1, _ => rfl
theorem rw2_set {vs l : List Int} {q i : Nat} (hq : q < 2) : (rw2 vs l q i).set q (((wt vs l.length q).drop (i + 1)).map fun j => l.getD j 0) = rw2 vs l q (i + 1) := by
 match q, hq with
 | 0, _ => rfl
 | 1, _ => rfl
end Qs
open Qs in
theorem law_gcqueues (z : Slc) (vs : List Int) (ro8 : RoS ρ z 1 (vs.map fun x => .int .u8 x)) (hb : ∀ x ∈ vs, (Lit.int .u8 x).wf = true) (hl8 : vs.length < 2 ^ 63) : Gl.Spec ρ Tryz.prog 7 [.slice z.a z.n z.c] [] RB fun r M => r = true ∧ M = [] := by
 refine Gl.Spec.of (fun Q w h => F.gloaminglaw20.GcQueues.calls z h) fun R => ?_
 unfold F.gloaminglaw20.GcQueues
 rw [zcOut]
 have hb := u8_all hb
 have hzn := ro8.len8
 refine en_call (made60 0 2 (by decide) (by decide)) tks ?_
 rintro _ _ ⟨i, S0, hs0, ro, rfl, rfl, b0, w0, h0, r0, hro⟩
 try simp only [lca, lna]
 change Wl S0 [] [[], []] 0 [] [] at w0
 refine en_brf rfl ?_
 have hf0 : Hn.free hs0 = some 0 := Hn.free_is (by rw [h0.len]; decide) (by rw [r0]) fun t ht => by omega
 have ht0 : Hn.told hs0 0 = 512 := by unfold Hn.told; rw [r0]; rfl
 refine en_call (box60 i b0 w0 h0 (by decide) (by decide) hf0 1 (by decide) (by decide)) tks ?_
 rintro _ _ ⟨o, S1, hs1, rfl, rfl, ho, b1, w1, h1, r1⟩
 try simp only [lca, lna]
 rw [ht0]
 change Bx S1 [] 60 [⟨o, ⟨2, 0, 1, false⟩, [0]⟩] at b1
 refine en_call (gc_tick i (RX 0 [[], []] 0 S1 hs1 ro [] [] 0 0) 5 (by show (0 : Int) < _; decide) (by decide)) tks ?_
 rintro _ _ rfl
 try simp only [lca, lna]
 change Tr _ _ (blk i.p (i.cs (RX 0 [[], []] 0 S1 hs1 ro [] [] (Sf.later 0 5) 0)) :: _) _ _
 rw [show Sf.later 0 5 = 5 from rfl]
 refine en_mks (m := 1) (bytes := 24) (z := .slice none 0 0) (n := 2) Tryz.underlying35 zcSl rfl (by decide) (by decide) (by decide) fun zb => ?_
 generalize hz4 : (⟨some ⟨zb, 0, none⟩, (2 : Int).toNat, (2 : Int).toNat⟩ : Slc) = r4
 have hr4 : r4.n = 2 := by rw [← hz4]; rfl
 clear hz4
 refine Tr.imp (A := SLc r4 1 (List.replicate (2 : Int).toNat (Value.slice none 0 0).cells.toList).flatten) (A' := two r4 ⟨none, 0, 0⟩ ⟨none, 0, 0⟩) tk (fun h H => H) ?_
 refine Tr.nilSL 1 ?_
 refine en_lp (I := fun m u M => ∃ (j : Nat) (s : Slc), j ≤ 2 ∧ m = 2 - j ∧ u = (s, (j : Int), ()) ∧ s.n = j ∧ M = [SLc s 1 (List.replicate j (.slice none 0 0)), two r4 ⟨none, 0, 0⟩ ⟨none, 0, 0⟩] ++ i.A (RX 0 [[], []] 0 S1 hs1 ro [] [] 5 0) ++ R) 2 ⟨0, _, by decide, rfl, rfl, rfl, rfl⟩ ?_
 rintro m _ _ ⟨j, zl, hj, rfl, rfl, hzl, rfl⟩ XX hXX
 try simp only [lca, lna]
 refine en_br (fun hc => ?_) (fun hc => ?_)
 ·have hj' : (j : Int) < 2 := of_decide_eq_true hc
  refine en_nw fun b => ?_
  refine en_app (s := zl) (x := ⟨some ⟨b, 0, none⟩, 1, 1⟩) (ys := [.slice none 0 0]) appSls tk (Rd.cl tk rfl rfl) rfl (by rw [hzl]; dsimp only; omega) (by rw [hzl]; dsimp only; omega) fun v hv => ?_
  rw [wrap64 (n := (j : Int) + 1) (by omega) (by omega)]
  refine Tr.drop (A := blk b [.slice none 0 0]) tk ?_
  rw [show List.replicate j (Value.slice none 0 0) ++ [.slice none 0 0] = List.replicate (j + 1) (Value.slice none 0 0) from List.replicate_succ'.symm]
  exact Tr.perm (Takes.perm (M := [SLc v 1 (List.replicate (j + 1) (.slice none 0 0)), two r4 ⟨none, 0, 0⟩ ⟨none, 0, 0⟩] ++ i.A (RX 0 [[], []] 0 S1 hs1 ro [] [] 5 0)) tks) (hXX (2 - (j + 1)) _ _ (by omega) ⟨j + 1, v, by omega, rfl, rfl, by rw [hv, hzl], rfl⟩)
 have hj2 : j = 2 := by have : ¬ (j : Int) < 2 := of_decide_eq_false hc; omega
 subst hj2
 clear hXX hc hj XX
 refine Tr.imp (A := SLc zl 1 (List.replicate 2 (.slice none 0 0))) (A' := two zl ⟨none, 0, 0⟩ ⟨none, 0, 0⟩) tk (fun h H => H) ?_
 have hr1 : ∀ t, Hn.at' hs1 t = if t < (hl vs o []).length then (0, (hl vs o []).getD t 0) else (0, 0) := fun t => by
  rw [r1, r0, r0]
  show _ = if t < 1 then ((0 : Int), [o].getD t 0) else (0, 0)
  by_cases e : t = 0
  ·subst e; rfl
  ·rw [if_neg e, if_neg (by omega)]
 refine en_jn (fun _ M => ∃ (n : Nat) (S : Spc) (hs : List Hn.Slot) (l : List Int) (a0 a1 c0 c1 : Slc), n ≤ 16 ∧ l.length = n ∧ Bx S [] 60 (os vs o l) ∧ Wl S [] [[], []] n [] [] ∧ HI 0 hs ∧ (∀ t, Hn.at' hs t = if t < (hl vs o l).length then (0, (hl vs o l).getD t 0) else (0, 0)) ∧
  M = [two r4 a0 a1, SLc a0 1 ((X vs n false 0).map i64), SLc a1 1 ((X vs n false 1).map i64), two zl c0 c1, SLc c0 1 ((X vs n true 0).map i64), SLc c1 1 ((X vs n true 1).map i64)] ++ i.A (RX 0 [[], []] n S hs ro [] [] 5 0) ++ R) ?_ ?_
 rotate_left
 ·intro J hJ
  refine Tr.nilSL 1 (Tr.nilSL 1 (Tr.nilSL 1 (Tr.nilSL 1 ?_)))
  refine Tr.perm (Takes.perm (M := [two r4 ⟨none, 0, 0⟩ ⟨none, 0, 0⟩, SLc ⟨none, 0, 0⟩ 1 [], SLc ⟨none, 0, 0⟩ 1 [], two zl ⟨none, 0, 0⟩ ⟨none, 0, 0⟩, SLc ⟨none, 0, 0⟩ 1 [], SLc ⟨none, 0, 0⟩ 1 []] ++ i.A (RX 0 [[], []] 0 S1 hs1 ro [] [] 5 0)) tks) ?_
  refine en_lp (I := fun m u M => ∃ (n : Nat) (S : Spc) (hs : List Hn.Slot) (l : List Int) (a0 a1 c0 c1 : Slc), n ≤ 16 ∧ m = 16 - n ∧ u = ((n : Int), ()) ∧ l.length = n ∧ Bx S [] 60 (os vs o l) ∧ Wl S [] [[], []] n [] [] ∧ HI 0 hs ∧ (∀ t, Hn.at' hs t = if t < (hl vs o l).length then (0, (hl vs o l).getD t 0) else (0, 0)) ∧
   M = [two r4 a0 a1, SLc a0 1 ((X vs n false 0).map i64), SLc a1 1 ((X vs n false 1).map i64), two zl c0 c1, SLc c0 1 ((X vs n true 0).map i64), SLc c1 1 ((X vs n true 1).map i64)] ++ i.A (RX 0 [[], []] n S hs ro [] [] 5 0) ++ R) 16 ⟨0, S1, hs1, [], _, _, _, _, by decide, rfl, rfl, rfl, b1, w1, h1, hr1, rfl⟩ ?_
  clear b1 w1 h1 hr1 r1 S1 hs1
  rintro m _ _ ⟨n, S, hs, l, a0, a1, c0, c1, hn, rfl, rfl, hln, b2, w2, h2, r2, rfl⟩ XX hXX
  try simp only [lca, lna]
  refine en_br (fun hc => ?_) (fun hc => hJ () _ ⟨n, S, hs, l, a0, a1, c0, c1, hn, hln, b2, w2, h2, r2, rfl⟩)
  have hc1 : (n : Int) < z.n := of_decide_eq_true hc
  refine en_br (fun hc => ?_) (fun hc => hJ () _ ⟨n, S, hs, l, a0, a1, c0, c1, hn, hln, b2, w2, h2, r2, rfl⟩)
  have hc2 : (n : Int) < 16 := of_decide_eq_true hc
  refine en_drw ?_
  refine en_getU8 ro8 (by omega) (by omega) (en_need (by decide) ?_)
  refine en_getU8 ro8 (by omega) (by omega) (en_need (by decide) (en_need (by decide) ?_))
  rw [Int.toNat_natCast]
  have hv := u8_getD hb n
  obtain ⟨v, hve⟩ : ∃ v, vs.getD n 0 = v := ⟨_, rfl⟩
  rw [hve] at hv ⊢
  have ek : IntKind.wrap .i64 (1 + Int.tmod (IntKind.wrap .i64 v) 3) = kk vs n := by
   rw [wrap64 (n := v) (by omega) (by omega), Int.tmod_eq_emod_of_nonneg hv.1, wrap64 (by omega) (by omega)]
   unfold kk; rw [hve]
  have eq : Int.tmod (IntKind.wrap .i64 (Int.tdiv (IntKind.wrap .i64 v) 4)) 2 = qq vs n := by
   rw [wrap64 (n := v) (by omega) (by omega), Int.tdiv_eq_ediv_of_nonneg hv.1, wrap64 (by omega) (by omega), Int.tmod_eq_emod_of_nonneg (by omega)]
   unfold qq; rw [hve]
  rw [ek, eq]
  have hkb := kk_b vs n
  have hqb := qq_b vs n
  refine en_nn ?_
  refine en_ld (k := .ptr) (b := i.p) (off := 0) (x := some ⟨i.r, 0, none⟩) (by rw [fa_mk]) tk rfl ?_
  obtain ⟨a, S2, e3, ha, b3⟩ := b2.refer (rows := [[], []]) (n := (n : Int)) (c := kk vs n) (o := o) (q := qq vs n) (t := 0) (by rw [os_len]; omega) hkb.1 hkb.2 (by omega) (by show qq vs n < 2; omega) (by omega) ⟨_, .head _, rfl⟩
  obtain ⟨w3, _, _⟩ := w2.refer (kk vs n) o (qq vs n) 0 (by decide) (by omega)
  refine en_call (rfs_refer i.r i.b S [] b2.hw [[], []] n (kk vs n) o (qq vs n) 0 (by omega) (by show 2 ≤ 8; decide)) tks ?_
  rintro _ _ ⟨rfl, rfl⟩
  rw [e3] at w3 ⊢
  try simp only [lca, lna]
  change Wl S2 [] [[], []] ((n : Int) + 1) [] [] at w3
  have b3 : Bx S2 [] 60 (os vs o (l ++ [a])) := by rw [os_snoc, hln]; exact b3
  iterate 1
   refine en_call (law_err _) .nil ?_
   rintro x' M ⟨rfl, rfl⟩
   try simp only [lca, lna]
  refine en_brf rfl ?_
  refine en_getU8 ro8 (by omega) (by omega) ?_
  rw [Int.toNat_natCast, hve, wrap64 (n := (n : Int) + 1) (by omega) (by omega)]
  refine en_br (fun hd => ?_) (fun hd => ?_)
  ·have hd : v < 64 := of_decide_eq_true hd
   have hhn : hh vs n = false := by unfold hh; rw [hve, decide_eq_false_iff_not]; omega
   have eX : ∀ (lt : Bool) (c : Int), X vs (n + 1) lt c = X vs n lt c := fun lt c => by rw [X_snoc, hhn, if_neg (by simp), List.append_nil]
   refine Tr.perm (Takes.perm (M := [two r4 a0 a1, SLc a0 1 ((X vs n false 0).map i64), SLc a1 1 ((X vs n false 1).map i64), two zl c0 c1, SLc c0 1 ((X vs n true 0).map i64), SLc c1 1 ((X vs n true 1).map i64)] ++ i.A (RX 0 [[], []] ((n : Int) + 1) S2 hs ro [] [] 5 0)) tks) (hXX (16 - (n + 1)) _ _ (by omega) ⟨n + 1, S2, hs, l ++ [a], a0, a1, c0, c1, by omega, rfl, rfl, by simp; omega, b3, w3, h2, fun t => ?_, by rw [eX, eX, eX, eX]; rfl⟩)
   have eh : hl vs o (l ++ [a]) = hl vs o l := by rw [hl_snoc, hln, hhn]; exact if_neg (by simp)
   rw [eh]; exact r2 t
  ·have hd : ¬ v < 64 := of_decide_eq_false hd
   have hhn : hh vs n = true := by unfold hh; rw [hve, decide_eq_true_iff]; omega
   have hlen : (hl vs o l).length ≤ n + 1 := by
    unfold hl
    rw [List.length_cons, List.length_map]
    have := List.length_filter_le (hh vs) (List.range l.length)
    rw [List.length_range] at this
    omega
   have hf : Hn.free hs = some (hl vs o l).length := by
    refine Hn.free_is (by rw [h2.len]; omega) (by rw [r2, if_neg (by omega)]) fun t ht => ?_
    rw [r2, if_pos ht]
    have hm : (hl vs o l).getD t 0 ∈ hl vs o l := by rw [List.getD_eq_getElem?_getD, List.getElem?_eq_getElem ht]; exact List.getElem_mem _
    generalize (hl vs o l).getD t 0 = y at *
    unfold hl at hm
    rcases List.mem_cons.mp hm with rfl | hm
    ·exact Int.ne_of_gt ho
    ·obtain ⟨j, hj, rfl⟩ := List.mem_map.mp hm
     rw [List.mem_filter, List.mem_range] at hj
     exact b2.bo.ne (o := rf vs l o j) (List.mem_cons_of_mem _ (List.mem_map.mpr ⟨j, List.mem_range.mpr hj.1, rfl⟩))
   refine en_nn ?_
   refine en_ld (k := .ptr) (b := i.p) (off := 1) (x := some ⟨i.h, 0, none⟩) (by rw [fa_mk]) tk rfl ?_
   obtain ⟨g1, g2⟩ := Hn.hold_is hf ha
   refine en_call (han_hold i.h (h2.ok (by decide)) a) tks ?_
   rintro x' M ⟨rfl, rfl⟩
   try simp only [lca, lna]
   rw [g1]
   have h3 := h2.hold a
   generalize Hn.holdS hs a = hs3 at *
   have r3 : ∀ t, Hn.at' hs3 t = if t < (hl vs o (l ++ [a])).length then (0, (hl vs o (l ++ [a])).getD t 0) else (0, 0) := fun t => by
    rw [g2, hl_snoc, hln, hhn, if_pos rfl, ← Hn.row_get, r2 (hl vs o l).length, if_neg (Nat.lt_irrefl _), r2 t]
   iterate 1
    refine en_call (law_err _) .nil ?_
    rintro x' M ⟨rfl, rfl⟩
    try simp only [lca, lna]
   refine en_brf rfl ?_
   have hXl := fun lt c => X_len (vs := vs) n lt c
   refine en_br (fun hk3 => ?_) (fun hk3 => ?_)
   ·have hk3 : kk vs n = 3 := by simpa using hk3
    refine en_app2 (z := zl) (a0 := c0) (a1 := c1) (X0 := X vs n true 0) (X1 := X vs n true 1) appInt (by omega) hzl (by have := hXl true 0; omega) (by have := hXl true 1; omega) tk tk tk fun d0 d1 => ?_
    have eX : ∀ (c : Int), X vs (n + 1) false c = X vs n false c := fun c => by rw [X_snoc, hhn, hk3, if_neg (by simp), List.append_nil]
    have eY : ∀ (c : Int), X vs (n + 1) true c = X vs n true c ++ if qq vs n = c then [(n : Int) + 1] else [] := fun c => by rw [X_snoc, hhn, hk3]; by_cases e : qq vs n = c <;> simp [e]
    rw [← eY, ← eY]
    exact Tr.perm (Takes.perm (M := [two r4 a0 a1, SLc a0 1 ((X vs n false 0).map i64), SLc a1 1 ((X vs n false 1).map i64), two zl d0 d1, SLc d0 1 ((X vs (n + 1) true 0).map i64), SLc d1 1 ((X vs (n + 1) true 1).map i64)] ++ i.A (RX 0 [[], []] ((n : Int) + 1) S2 hs3 ro [] [] 5 0)) tks) (hXX (16 - (n + 1)) _ _ (by omega) ⟨n + 1, S2, hs3, l ++ [a], a0, a1, d0, d1, by omega, rfl, rfl, by simp; omega, b3, w3, h3, r3, by rw [eX, eX]; rfl⟩)
   ·have hk3 : kk vs n ≠ 3 := by simpa using hk3
    refine en_app2 (z := r4) (a0 := a0) (a1 := a1) (X0 := X vs n false 0) (X1 := X vs n false 1) appInt (by omega) hr4 (by have := hXl false 0; omega) (by have := hXl false 1; omega) tk tk tk fun d0 d1 => ?_
    have eX : ∀ (c : Int), X vs (n + 1) true c = X vs n true c := fun c => by rw [X_snoc, hhn, if_neg (by simp [hk3]), List.append_nil]
    have eY : ∀ (c : Int), X vs (n + 1) false c = X vs n false c ++ if qq vs n = c then [(n : Int) + 1] else [] := fun c => by rw [X_snoc, hhn]; by_cases e : qq vs n = c <;> simp [e, hk3]
    rw [← eY, ← eY]
    exact Tr.perm (Takes.perm (M := [two r4 d0 d1, SLc d0 1 ((X vs (n + 1) false 0).map i64), SLc d1 1 ((X vs (n + 1) false 1).map i64), two zl c0 c1, SLc c0 1 ((X vs n true 0).map i64), SLc c1 1 ((X vs n true 1).map i64)] ++ i.A (RX 0 [[], []] ((n : Int) + 1) S2 hs3 ro [] [] 5 0)) tks) (hXX (16 - (n + 1)) _ _ (by omega) ⟨n + 1, S2, hs3, l ++ [a], d0, d1, c0, c1, by omega, rfl, rfl, by simp; omega, b3, w3, h3, r3, by rw [eX, eX]; rfl⟩)
 clear b1 w1 h1 hr1 r1 hs1
 rintro _ _ ⟨n, S, hs, l, a0, a1, c0, c1, hn, hln, b2, w2, h2, r2, rfl⟩
 have hlen : (hl vs o l).length ≤ 17 := by
  unfold hl
  rw [List.length_cons, List.length_map]
  have := List.length_filter_le (hh vs) (List.range l.length)
  rw [List.length_range] at this
  omega
 refine en_nn ?_
 refine en_ld (k := .ptr) (b := i.p) (off := 1) (x := some ⟨i.h, 0, none⟩) (by rw [fa_mk]) tk rfl ?_
 have rz := r2 0
 rw [if_pos (by unfold hl; simp)] at rz
 change Hn.at' hs 0 = (0, o) at rz
 have hat' := Hn.drop_is (h2.ok (by decide)) (i := 0) (by decide) (by rw [rz]; exact Int.ne_of_gt ho)
 have ht1 : Hn.told hs 0 = 512 := by unfold Hn.told; rw [rz]; rfl
 rw [ht1] at hat'
 obtain ⟨_, d2⟩ := hat'
 have h3 := h2.drop (by decide) 512
 refine en_call (han_drop i.h (h2.ok (by decide)) 512) tks ?_
 rintro x' M ⟨rfl, rfl⟩
 try simp only [lca, lna]
 generalize Hn.dropS hs 512 = hs3 at *
 have hroH : ∀ a, 0 < a → ((∃ t, t < 512 ∧ (Hn.at' hs3 t).2 = a) ↔ ∃ j, j < l.length ∧ hh vs j = true ∧ a = l.getD j 0) := fun a ha => by
  constructor
  ·rintro ⟨t, ht, e⟩
   rw [d2] at e
   split at e
   ·dsimp only at e; omega
   ·rename_i h0
    rw [r2] at e
    split at e
    ·rename_i h1
     have : (hl vs o l).getD t 0 ∈ ((List.range l.length).filter (hh vs)).map fun j => l.getD j 0 := by
      match t, h0 with
      | t + 1, _ =>
       unfold hl at h1 ⊢
       rw [List.length_cons] at h1
       show List.getD _ t 0 ∈ _
       rw [List.getD_eq_getElem?_getD, List.getElem?_eq_getElem (by omega)]; exact List.getElem_mem _
     obtain ⟨j, hj, e2⟩ := List.mem_map.mp this
     rw [List.mem_filter, List.mem_range] at hj
     exact ⟨j, hj.1, hj.2, by rw [← e, ← e2]⟩
    ·dsimp only at e; omega
  ·rintro ⟨j, hj, h1, rfl⟩
   have hm : l.getD j 0 ∈ ((List.range l.length).filter (hh vs)).map fun j => l.getD j 0 := List.mem_map.mpr ⟨j, List.mem_filter.mpr ⟨List.mem_range.mpr hj, h1⟩, rfl⟩
   obtain ⟨t, ht, e⟩ := List.mem_iff_getElem.mp hm
   have hlt : t + 1 < (hl vs o l).length := by unfold hl; rw [List.length_cons]; omega
   refine ⟨t + 1, by omega, ?_⟩
   rw [d2, if_neg (by omega), r2, if_pos hlt]
   show (hl vs o l).getD (t + 1) 0 = _
   unfold hl
   show List.getD _ t 0 = _
   rw [List.getD_eq_getElem?_getD, List.getElem?_eq_getElem ht]; exact e
 have hroz : ∀ a : Int, 0 < a → a ∈ ro → False := fun a ha h => by
  rw [hro] at h
  have := List.eq_of_mem_replicate h; omega
 have hrol : ro.length = 16 := by rw [hro]; rfl
 clear d2 r2 rz ht1 hlen h2
 have inv : (RX 0 [[], []] n S hs3 ro [] [] 5 0).Inv 20 := inv_of w2 (h3.le (by decide)) hrol ⟨by show (0 : Int) ≤ 5; decide, by show (5 : Int) < _; decide⟩ ⟨by show (0 : Int) ≤ n; omega, by show (n : Int) ≤ 20; omega⟩ ⟨Int.le_refl 0, by show (0 : Int) ≤ 20; decide⟩ ⟨Int.le_refl 0, by show (0 : Int) < _; decide⟩ rfl
 refine en_call (gc_collect i (RX 0 [[], []] n S hs3 ro [] [] 5 0) (inv.ok2 (by decide)) false) tks ?_
 rintro _ _ ⟨y1, y2, s1, s2, s3, s4, L9, m2, m3, hC, rfl, rfl⟩
 have inv1 := inv.after hC
 have bo := b2.bo
 obtain ⟨c3, ccl, cpu, cnd, lnd, cfd⟩ := coll1 bo hC (w2.r.key b2.hw) (fun a hb => by
  obtain ⟨x, hx, e⟩ := bo.obj.mp hb
  have ha := e ▸ bo.pos hx
  rw [mem_roots h3.len ha, ← hroH a ha]
  constructor
  ·rintro (g | g | ⟨r, hr, g⟩ | g)
   ·exact g
   ·exact (hroz a ha g).elim
   ·have : r = [] := by simpa using hr
    subst this; cases g
   ·cases g
  ·exact .inl) (by
  show Sf.keep 5 0 (RX 0 [[], []] n S hs3 ro [] [] 5 0).free 0 = false
  unfold Sf.keep Sf.limit
  rw [decide_eq_false_iff_not, show Sf.none 0 = 0 from rfl, Int.mul_zero, if_neg (by decide)]
  decide)
 have A1 := aft b2.hw w2.q hC (fun a => (Ob.get S a 1).1 - 1) ccl cpu (fun a ha => by
  unfold pu at ha
  obtain ⟨j, hj, rfl⟩ := List.mem_map.mp ha
  have hj' : j < l.length := by
   rcases List.mem_append.mp hj with h | h <;> exact List.mem_range.mp (List.mem_filter.mp h).1
  have hqb := qq_b vs j
  rw [(cfd j hj').2.1]
  exact ⟨by show qq vs j + 1 = qq vs j + 1 - 1 + 1; omega, by show qq vs j + 1 - 1 < 2; omega⟩) cnd
 have cp : pendOf S m2 [] = [] := rfl
 change (Rt.mk (Sw.sweep (Rf.enqs (Rf.clear S (clrOf S m2 m3 L9)).2 [[], []] (putOf S m3 (clrOf S m2 m3 L9))).1 (Mk.all m3)) [] (Rf.enqs (Rf.clear S (clrOf S m2 m3 L9)).2 [[], []] (putOf S m3 (clrOf S m2 m3 L9))).2 n hs3 ro [] [] 60 0 2 5 1).Inv _ at inv1
 rw [ccl, cpu] at inv1
 have eX : Rt.after (RX 0 [[], []] n S hs3 ro [] [] 5 0) (clrOf S m2 m3 L9) (putOf S m3 (clrOf S m2 m3 L9)) (pendOf S m2 []) (Mk.all m3) = RX 0 (Rf.enqs (Rf.clear S (cl vs l)).2 [[], []] (pu vs l)).2 n (Sw.sweep (Rf.enqs (Rf.clear S (cl vs l)).2 [[], []] (pu vs l)).1 (Mk.all m3)) hs3 ro [] [] 5 1 := by
  rw [ccl, cpu, cp]; rfl
 rw [eX]
 clear eX
 try simp only [lca, lna]
 have erow : (Rf.enqs (Rf.clear S (cl vs l)).2 [[], []] (pu vs l)).2 = rw2 vs l 0 0 := by
  have e1 := A1.len
  have hqf : ∀ j, j < l.length → (Ob.get S (l.getD j 0) 1).1 - 1 = qq vs j := fun j hj => by rw [(cfd j hj).2.1]; show qq vs j + 1 - 1 = _; omega
  have e2 := A1.row 0 (by decide)
  have e3 := A1.row 1 (by decide)
  rw [pu_row (c := 0) hqf] at e2
  rw [pu_row (c := 1) hqf] at e3
  generalize (Rf.enqs (Rf.clear S (cl vs l)).2 [[], []] (pu vs l)).2 = rows at *
  match rows, e1 with
  | [x, y], _ =>
   have e2 : x = (wt vs l.length 0).map fun j => l.getD j 0 := e2
   have e3 : y = (wt vs l.length 1).map fun j => l.getD j 0 := e3
   rw [e2, e3]; rfl
 rw [erow] at A1 inv1 ⊢
 have hcl0 : ∀ j, j < l.length → l.getD j 0 ∈ cl vs l := fun j hj => by
  unfold cl
  refine List.mem_map.mpr ⟨j, ?_, rfl⟩
  by_cases h : kk vs j = 3
  ·exact List.mem_append_right _ (List.mem_filter.mpr ⟨List.mem_range.mpr hj, by simpa using h⟩)
  ·exact List.mem_append_left _ (List.mem_filter.mpr ⟨List.mem_range.mpr hj, by simpa using h⟩)
 have w6 := inv1.w
 change Wl (Sw.sweep (Rf.enqs (Rf.clear S (cl vs l)).2 [[], []] (pu vs l)).1 (Mk.all m3)) [] (rw2 vs l 0 0) n [] [] at w6
 generalize Sw.sweep (Rf.enqs (Rf.clear S (cl vs l)).2 [[], []] (pu vs l)).1 (Mk.all m3) = S6 at *
 have ho6 : ∀ a, Mk.obj S6 a ↔ ∃ j, j < l.length ∧ hh vs j = true ∧ a = l.getD j 0 := fun a => by rw [A1.obj, c3]
 have hf6 : ∀ j, j < l.length → hh vs j = true → Ob.head S6 (l.getD j 0) = some ⟨4, kk vs j, 5, false⟩ ∧ Ob.get S6 (l.getD j 0) 0 = (0, 0) ∧ Ob.get S6 (l.getD j 0) 4 = ((j : Int) + 1, 0) := fun j hj h1 => by
  have hm := (c3 _).mpr ⟨j, hj, h1, rfl⟩
  obtain ⟨q1, q2, q3⟩ := cfd j hj
  refine ⟨by rw [A1.head _ hm]; exact q1, ?_, ?_⟩
  ·rw [A1.get _ hm q1 (by decide) (show (0 : Int) < 5 by decide) (.inl (by decide)), if_pos ⟨hcl0 j hj, rfl⟩]
  ·rw [A1.get _ hm q1 (by decide) (show (4 : Int) < 5 by decide) (.inl (by decide)), if_neg (by simp), if_neg (by simp)]; exact q3
 clear A1 erow ccl cpu cnd cfd cp c3 hC hcl0 inv w2 b2 bo
 refine Tr.drop (A := SLc s1 1 _) tk ?_
 refine Tr.drop (A := SLc s2 1 _) tk ?_
 refine Tr.drop (A := SLc s3 1 _) tk ?_
 refine Tr.drop (A := SLc s4 1 _) tk ?_
 refine en_nw fun b13 => ?_
 refine en_st (b := b13) (off := 0) rfl tk (by simp) rfl ?_
 clear y1 y2 L9 m2 m3
 have inv : (RX 0 (rw2 vs l 0 0) n S6 hs3 ro [] [] 5 1).Inv 21 := inv1
 refine en_call (gc_collect i (RX 0 (rw2 vs l 0 0) n S6 hs3 ro [] [] 5 1) (inv.ok2 (by decide)) false) tks ?_
 rintro _ _ ⟨y1, y2, t1, t2, t3, t4, L9, m2, m3, hC, rfl, rfl⟩
 have inv2 := inv.after hC
 have opos6 : ∀ a, Mk.obj S6 a → 0 < a := fun a ha => by
  obtain ⟨j, hj, h1, rfl⟩ := (ho6 a).mp ha
  obtain ⟨n', w', e, _⟩ := Ob.head_is w6.hw (hf6 j hj h1).1
  have : l.getD j 0 ≠ 0 := fun e => Mk.obj_zero w6.hw (e ▸ ha)
  omega
 have c2 : ∀ a, Sp.has m2 a = true ↔ Mk.obj S6 a := fun a => by
  constructor
  ·exact fun g => hC.c2.obj a g
  ·intro g
   refine (hC.has2 a).mpr (.base (.root ?_ g))
   rw [mem_roots h3.len (opos6 a g)]
   exact .inl ((hroH a (opos6 a g)).mpr ((ho6 a).mp g))
 have c3 : ∀ a, Sp.has m3 a = true ↔ Mk.obj S6 a := fun a => by
  rw [hC.has3, c2]
  exact ⟨fun g => g.elim id fun g => absurd g Mk.rch_nil, .inl⟩
 have nocl : ∀ (m : List Bool) (xs : List Int), clearOf S6 m xs L9 = [] := fun m xs => no_mem fun b hb => by
  obtain ⟨h, hh1, _, _, h2, _⟩ := (mem_clr w6.hw hC.perm).mp hb
  obtain ⟨j, hj, h1, rfl⟩ := (ho6 b).mp (by unfold Mk.obj; rw [hh1]; rfl)
  rw [(hf6 j hj h1).2.1] at h2
  exact Mk.obj_zero w6.hw h2
 have ccl : clrOf S6 m2 m3 L9 = [] := by unfold clrOf; rw [nocl, nocl]; rfl
 have cpu : putOf S6 m3 [] = [] := rfl
 have cp : pendOf S6 m2 [] = [] := rfl
 have A1 := aft w6.hw w6.q hC (fun _ => 0) ccl cpu (fun a ha => by cases ha) (by simp)
 change (Rt.mk (Sw.sweep (Rf.enqs (Rf.clear S6 (clrOf S6 m2 m3 L9)).2 (rw2 vs l 0 0) (putOf S6 m3 (clrOf S6 m2 m3 L9))).1 (Mk.all m3)) [] (Rf.enqs (Rf.clear S6 (clrOf S6 m2 m3 L9)).2 (rw2 vs l 0 0) (putOf S6 m3 (clrOf S6 m2 m3 L9))).2 n hs3 ro [] [] 60 0 2 5 2).Inv _ at inv2
 rw [ccl, cpu] at inv2
 have eX : Rt.after (RX 0 (rw2 vs l 0 0) n S6 hs3 ro [] [] 5 1) (clrOf S6 m2 m3 L9) (putOf S6 m3 (clrOf S6 m2 m3 L9)) (pendOf S6 m2 []) (Mk.all m3) = RX 0 (rw2 vs l 0 0) n (Sw.sweep S6 (Mk.all m3)) hs3 ro [] [] 5 2 := by
  rw [ccl, cpu, cp]; rfl
 rw [eX]
 clear eX
 try simp only [lca, lna]
 change Aft S6 (Sw.sweep S6 (Mk.all m3)) (rw2 vs l 0 0) (rw2 vs l 0 0) [] [] m3 _ at A1
 have w7 := inv2.w
 change Wl (Sw.sweep S6 (Mk.all m3)) [] (rw2 vs l 0 0) n [] [] at w7
 generalize Sw.sweep S6 (Mk.all m3) = S7 at *
 have hf7 : ∀ j, j < l.length → hh vs j = true → Qu.isR S7 (l.getD j 0) = true ∧ Ob.get S7 (l.getD j 0) 4 = ((j : Int) + 1, 0) := fun j hj h1 => by
  have hm := (c3 _).mpr ((ho6 _).mpr ⟨j, hj, h1, rfl⟩)
  obtain ⟨q1, q2, q3⟩ := hf6 j hj h1
  refine ⟨by unfold Qu.isR; rw [A1.head _ hm, q1]; rfl, ?_⟩
  rw [A1.get _ hm q1 (by decide) (show (4 : Int) < 5 by decide) (.inl (by decide)), if_neg (by simp), if_neg (by simp)]; exact q3
 clear A1 ccl cpu cp nocl c2 c3 hC inv inv1 inv2 hf6 ho6 opos6 w6
 refine Tr.drop (A := SLc t1 1 _) tk ?_
 refine Tr.drop (A := SLc t2 1 _) tk ?_
 refine Tr.drop (A := SLc t3 1 _) tk ?_
 refine Tr.drop (A := SLc t4 1 _) tk ?_
 refine en_nw fun b15 => ?_
 refine en_st (b := b15) (off := 0) rfl tk (by simp) rfl ?_
 refine Tr.drop (A := blk b13 _) tk (Tr.drop (A := blk b15 _) tk ?_)
 refine en_brf (beq_eq_false_iff_ne.mpr (Int.ne_of_gt ho)) ?_
 iterate 2
  refine en_call (law_err _) .nil ?_
  rintro x' M ⟨rfl, rfl⟩
  try simp only [lca, lna]
 refine en_brf rfl ?_
 clear y1 y2 L9 m2 m3 S6
 refine Tr.keepSL (s := a0) (xs := (X vs n false 0).map i64) tk fun ρ1 hle1 ra0 => ?_
 refine Tr.keepSL (s := a1) (xs := (X vs n false 1).map i64) tk fun ρ2 hle2 ra1 => ?_
 refine Tr.keepSL (s := c0) (xs := (X vs n true 0).map i64) tk fun ρ3 hle3 rc0 => ?_
 refine Tr.keepSL (s := c1) (xs := (X vs n true 1).map i64) tk fun ρ4 hle4 rc1 => ?_
 replace ra0 := ra0.le (hle2.trans (hle3.trans hle4))
 replace ra1 := ra1.le (hle3.trans hle4)
 replace rc0 := rc0.le hle4
 refine Tr.perm (Takes.perm (M := [two r4 a0 a1, two zl c0 c1] ++ i.A (RX 0 (rw2 vs l 0 0) n S7 hs3 ro [] [] 5 2)) tks) ?_
 refine en_lp (I := fun m u M => ∃ (q : Nat) (S : Spc), q ≤ 2 ∧ m = 2 - q ∧ u = ((q : Int), ()) ∧ Wl S [] (rw2 vs l q 0) n [] [] ∧ (∀ j, j < l.length → hh vs j = true → Qu.isR S (l.getD j 0) = true ∧ Ob.get S (l.getD j 0) 4 = ((j : Int) + 1, 0)) ∧
  M = [two r4 a0 a1, two zl c0 c1] ++ i.A (RX 0 (rw2 vs l q 0) n S hs3 ro [] [] 5 2) ++ R) 2 ⟨0, S7, by decide, rfl, rfl, w7, hf7, rfl⟩ ?_
 clear w7 hf7 S7
 rintro m _ _ ⟨q, S8, hq, rfl, rfl, w8, hf8, rfl⟩ XX hXX
 try simp only [lca, lna]
 refine en_br (fun hc => ?_) (fun hc => ?_)
 rotate_left
 ·refine en_call (law_awake20) tks ?_
  rintro x' M ⟨rfl, rfl⟩
  try simp only [lca, lna]
  exact en_rets (x := true) rfl ⟨rfl, rfl⟩ tks ens
 have hq' : (q : Int) < 2 := of_decide_eq_true hc
 have hq2 : q < 2 := by omega
 clear hc
 refine en_drw (en_held [two r4 a0 a1, two zl c0 c1] tks ?_)
 obtain ⟨xa, hxa, hxe⟩ : ∃ xa : Slc, ([.slice a0.a a0.n a0.c, .slice a1.a a1.n a1.c] : List Value)[q]? = some (LK.slice.val xa) ∧ RoS ρ4 xa 1 ((X vs n false q).map i64) := by
  match q, hq2 with
  | 0, _ => exact ⟨a0, rfl, ra0⟩
  | 1, _ => exact ⟨a1, rfl, ra1⟩
 obtain ⟨xc, hxc, hce⟩ : ∃ xc : Slc, ([.slice c0.a c0.n c0.c, .slice c1.a c1.n c1.c] : List Value)[q]? = some (LK.slice.val xc) ∧ RoS ρ4 xc 1 ((X vs n true q).map i64) := by
  match q, hq2 with
  | 0, _ => exact ⟨c0, rfl, rc0⟩
  | 1, _ => exact ⟨c1, rfl, rc1⟩
 refine en_ixSL (s := r4) (m := 1) (xs := [.slice a0.a a0.n a0.c, .slice a1.a a1.n a1.c]) tk (by omega) (by omega) fun y0 hy0 => ?_
 refine en_ldSL2 (s := r4) (m := 1) (xs := [.slice a0.a a0.n a0.c, .slice a1.a a1.n a1.c]) (k := .slice) (j := q) (x := xa) hy0 tk (by rintro b' o' rfl; rw [fa_mk]; simp) hxa ?_
 refine en_ixSL (s := zl) (m := 1) (xs := [.slice c0.a c0.n c0.c, .slice c1.a c1.n c1.c]) tk (by omega) (by omega) fun y0 hy0 => ?_
 refine en_ldSL2 (s := zl) (m := 1) (xs := [.slice c0.a c0.n c0.c, .slice c1.a c1.n c1.c]) (k := .slice) (j := q) (x := xc) hy0 tk (by rintro b' o' rfl; rw [fa_mk]; simp) hxc ?_
 refine en_nw fun b25 => en_chk tks ?_
 refine Tr.imp (A := blk b25 []) (A' := SLc ⟨some ⟨b25, 0, none⟩, 0, 0⟩ 1 (([] : List Int).map i64)) tk (SLc.of_cl rfl) ?_
 have hX1 := X_len (vs := vs) n false q
 have hX2 := X_len (vs := vs) n true q
 refine en_appS (s := ⟨some ⟨b25, 0, none⟩, 0, 0⟩) (xs := []) (x := xa) (ys := X vs n false q) appInts tk (Rd.ro hxe) (by show 0 + _ < _; omega) fun v1 hv1 => ?_
 refine en_chk tks ?_
 refine en_appS (s := v1) (xs := [] ++ X vs n false q) (x := xc) (ys := X vs n true q) appInts tk (Rd.ro hce) (by rw [List.nil_append]; omega) fun v2 hv2 => ?_
 rw [List.nil_append] at hv2 ⊢
 have hwl : (wt vs l.length q).length ≤ 40 := by
  have := congrArg List.length (wt_X (vs := vs) n q)
  rw [List.length_append, List.length_map, ← hln] at this
  rw [← hln] at hX1 hX2
  omega
 rw [wt_X]
 rw [← List.length_append, wt_X, List.length_map, ← hln] at hv2
 refine Tr.keepSL (s := v2) (xs := ((wt vs n q).map fun j : Nat => (j : Int) + 1).map i64) tk fun ρ5 hle5 rv2 => ?_
 rw [← hln] at rv2
 refine Tr.perm (Takes.perm (M := [two r4 a0 a1, two zl c0 c1] ++ i.A (RX 0 (rw2 vs l q 0) n S8 hs3 ro [] [] 5 2)) tks) ?_
 have has8 : ∀ {S : Spc} {i : Nat}, Wl S [] (rw2 vs l q i) n [] [] → ∀ r ∈ rw2 vs l q i, Qu.Lk S r := fun w => w.q.lk
 refine en_lp (I := fun m u M => ∃ (t : Nat) (S : Spc), t ≤ (wt vs l.length q).length ∧ m = (wt vs l.length q).length - t ∧ u = ((t : Int), ()) ∧ Wl S [] (rw2 vs l q t) n [] [] ∧ (∀ j, j < l.length → hh vs j = true → Qu.isR S (l.getD j 0) = true ∧ Ob.get S (l.getD j 0) 4 = ((j : Int) + 1, 0)) ∧
  M = [two r4 a0 a1, two zl c0 c1] ++ i.A (RX 0 (rw2 vs l q t) n S hs3 ro [] [] 5 2) ++ R) (wt vs l.length q).length ⟨0, S8, by omega, rfl, rfl, w8, hf8, rfl⟩ ?_
 clear w8 hf8 S8
 rintro m _ _ ⟨t, S8, ht, rfl, rfl, w8, hf8, rfl⟩ YY hYY
 try simp only [lca, lna]
 obtain ⟨e1, e2⟩ := rw2_at (vs := vs) (l := l) (i := t) hq2
 have hpoll := que_poll (ρ := ρ5) (hp := i.b) (S := S8) (cs := []) (hw := w8.hw) (rows := rw2 vs l q t) (hk := w8.q.lk) (i := (q : Int))
 have wp := w8.poll (q : Int)
 refine en_br (fun hc => ?_) (fun hc => ?_)
 ·have ht' : (t : Int) < v2.n := of_decide_eq_true hc
  have htl : t < (wt vs l.length q).length := by omega
  obtain ⟨j, hj⟩ : ∃ j, (wt vs l.length q)[t]? = some j := ⟨_, List.getElem?_eq_getElem htl⟩
  obtain ⟨hj1, hj2⟩ := wt_mem (List.mem_of_getElem? hj)
  have hdrop : (wt vs l.length q).drop t = j :: (wt vs l.length q).drop (t + 1) := by
   rw [List.drop_eq_getElem_cons htl]
   congr 1
   rw [List.getElem?_eq_getElem htl] at hj
   injection hj
  rw [hdrop] at e2
  have hR : Qu.pollR (rw2 vs l q t) q = (l.getD j 0, 0) := by unfold Qu.pollR; rw [if_pos e1, e2]; rfl
  have hQ : Qu.pollQ (rw2 vs l q t) q = rw2 vs l q (t + 1) := by
   unfold Qu.pollQ
   rw [if_pos e1, e2, Int.toNat_natCast]
   exact rw2_set hq2
  have hS : Qu.pollS S8 (rw2 vs l q t) q = (Ob.put S8 (l.getD j 0) 2 0).2 := by unfold Qu.pollS; rw [if_pos ⟨e1, by rw [e2]; simp⟩, e2]; rfl
  refine en_nn ?_
  refine en_ld (k := .ptr) (b := i.p) (off := 0) (x := some ⟨i.r, 0, none⟩) (by rw [fa_mk]) tk rfl ?_
  refine en_nn (RfA.op (p := i.r) (hp := i.b) (rows := rw2 vs l q t) (n := (n : Int)) tk fun qp => ?_)
  refine en_ld (k := .ptr) (b := i.r) (off := 0) (x := some ⟨qp, 0, none⟩) (by rw [fa_mk]) tk rfl ?_
  refine en_call (hpoll (p := qp)) tks ?_
  rintro _ _ ⟨rfl, rfl⟩
  rw [hR, hQ, hS]
  rw [hQ, hS] at wp
  try simp only [lca, lna]
  refine Tr.close tks (RfA.cl (p := i.r) (q := qp) (hp := i.b) (rows := rw2 vs l q (t + 1)) (n := (n : Int))) ?_
  have hf9 : ∀ j', j' < l.length → hh vs j' = true → Qu.isR (Ob.put S8 (l.getD j 0) 2 0).2 (l.getD j' 0) = true ∧ Ob.get (Ob.put S8 (l.getD j 0) 2 0).2 (l.getD j' 0) 4 = ((j' : Int) + 1, 0) := fun j' hj' h1 => by
   obtain ⟨p1, p2⟩ := hf8 j' hj' h1
   exact ⟨by rw [isR_putA w8.hw]; exact p1, by rw [get_putR w8.hw p1 (by decide) (by decide), if_neg (by simp)]; exact p2⟩
  generalize (Ob.put S8 (l.getD j 0) 2 0).2 = S9 at *
  refine en_nn ?_
  refine en_ld (k := .ptr) (b := i.p) (off := 3) (x := some ⟨i.f, 0, none⟩) (by rw [fa_mk]) tk rfl ?_
  refine en_nn (fin_heap (f := i.f) (hp := i.b) (by rw [fa_mk]) tk ?_)
  refine en_call (object_get i.b S9 [] wp.hw (l.getD j 0) 4) tks ?_
  rintro _ _ ⟨rfl, rfl⟩
  rw [(hf9 j hj1 hj2).2]
  try simp only [lca, lna]
  iterate 2
   refine en_call (law_err _) .nil ?_
   rintro x' M ⟨rfl, rfl⟩
   try simp only [lca, lna]
  refine en_brf rfl ?_
  refine en_getRo rv2 (by omega) (by rw [List.length_map]; omega) ?_
  have ev : ((wt vs l.length q).map fun j : Nat => (j : Int) + 1).getD (t : Int).toNat 0 = (j : Int) + 1 := by
   rw [Int.toNat_natCast, List.getD_eq_getElem?_getD, List.getElem?_map, hj]; rfl
  rw [ev]
  refine en_brf (by simp) ?_
  rw [wrap64 (n := (t : Int) + 1) (by omega) (by omega)]
  exact Tr.perm (Takes.perm (M := [two r4 a0 a1, two zl c0 c1] ++ i.A (RX 0 (rw2 vs l q (t + 1)) n S9 hs3 ro [] [] 5 2)) tks) (hYY ((wt vs l.length q).length - (t + 1)) _ _ (by omega) ⟨t + 1, S9, by omega, rfl, rfl, wp, hf9, rfl⟩)
 ·have ht' : ¬ (t : Int) < v2.n := of_decide_eq_false hc
  have htl : (wt vs l.length q).length ≤ t := by omega
  rw [List.drop_of_length_le htl] at e2
  have hR : Qu.pollR (rw2 vs l q t) q = (0, 0) := by unfold Qu.pollR; rw [if_pos e1, e2]; rfl
  have hQ : Qu.pollQ (rw2 vs l q t) q = rw2 vs l q t := by
   unfold Qu.pollQ
   rw [if_pos e1, e2, Int.toNat_natCast]
   have := rw2_set (vs := vs) (l := l) (i := t) hq2
   rw [List.drop_of_length_le (by omega)] at this
   show (rw2 vs l q t).set q [] = _
   rw [show ([] : List Int) = ([] : List Nat).map (fun j => l.getD j 0) from rfl, this, rw2_next (by omega), ← rw2_next htl]
  have hS : Qu.pollS S8 (rw2 vs l q t) q = S8 := by unfold Qu.pollS; rw [if_neg (fun g => g.2 (by rw [e2]; rfl))]
  refine en_nn ?_
  refine en_ld (k := .ptr) (b := i.p) (off := 0) (x := some ⟨i.r, 0, none⟩) (by rw [fa_mk]) tk rfl ?_
  refine en_nn (RfA.op (p := i.r) (hp := i.b) (rows := rw2 vs l q t) (n := (n : Int)) tk fun qp => ?_)
  refine en_ld (k := .ptr) (b := i.r) (off := 0) (x := some ⟨qp, 0, none⟩) (by rw [fa_mk]) tk rfl ?_
  refine en_call (hpoll (p := qp)) tks ?_
  rintro _ _ ⟨rfl, rfl⟩
  rw [hR, hQ, hS]
  try simp only [lca, lna]
  refine Tr.close tks (RfA.cl (p := i.r) (q := qp) (hp := i.b) (rows := rw2 vs l q t) (n := (n : Int))) ?_
  refine en_brf rfl ?_
  iterate 1
   refine en_call (law_err _) .nil ?_
   rintro x' M ⟨rfl, rfl⟩
   try simp only [lca, lna]
  refine en_brf rfl ?_
  rw [wrap64 (n := (q : Int) + 1) (by omega) (by omega)]
  rw [rw2_next htl] at w8 ⊢
  refine tr_weak2 (hle1.trans (hle2.trans (hle3.trans hle4))) hle5 ?_
  exact Tr.perm (Takes.perm (M := [two r4 a0 a1, two zl c0 c1] ++ i.A (RX 0 (rw2 vs l (q + 1) 0) n S8 hs3 ro [] [] 5 2)) tks) (hXX (2 - (q + 1)) _ _ (by omega) ⟨q + 1, S8, by omega, rfl, rfl, w8, hf8, rfl⟩)
end Go.Proofs.YtdplphebjhfliaaGreat
