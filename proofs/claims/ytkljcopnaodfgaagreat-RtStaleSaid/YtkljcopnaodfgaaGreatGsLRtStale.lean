/- The law RtStale. -/
import Derived.Test.YtkljcopnaodfgaaGreatGsRtB
import Derived.Test.YtkljcopnaodfgaaGreatGsTxRtStale
set_option linter.unusedSimpArgs false
set_option linter.unusedVariables false
namespace Go.Proofs.YtkljcopnaodfgaaGreat
open Go Go.Gl
variable {ρ0 ρ : FR} {L L' : List Asn} {Post : Value → List Asn → Prop} {T : Tree}
namespace Stale
abbrev os (a b w : Int) : List Ob1 := [⟨a, ⟨2, 0, 3, false⟩, [0, 0, 0]⟩, ⟨b, ⟨2, 0, 3, false⟩, [0, 0, 0]⟩, ⟨w, ⟨4, 2, 5, false⟩, [b, 0, 0, 0, 1]⟩]
abbrev ls (b w : Int) : List Hn.Slot := [(1, 0), (0, b), (0, w)]
theorem stale {b w v : Int} (h1 : v ≠ 513) (h2 : v ≠ 514) : Hn.held (Hn.Hs (ls b w)) v = (0, 6) ∧ Hn.dropE (Hn.Hs (ls b w)) v = 6 ∧ Hn.dropS (Hn.Hs (ls b w)) v = Hn.Hs (ls b w) := by
 refine Hn.hs_stale fun j e he hne => ?_
 match j, he with
 | 0, he => cases he; exact absurd rfl hne
 | 1, he => cases he; exact h1
 | 2, he => cases he; exact h2
theorem refer0 {i : Pl} {q : Nat} {x : Rt} {N : Int} (I : x.Inv N) (hN : N + 10 < 2 ^ 49) {a v c : Int} (hh : Hn.held x.hs v = (0, 6)) : Dos ρ i q 11 a v c x ((0, 6), x) := by
 refine Spec.post (op_refer i q x I a v c hN) fun r M hx => ?_
 obtain ⟨y, ⟨hy, _⟩, rfl, rfl⟩ := hx
 unfold Rx.referR Rx.hld at hy
 rw [if_neg (show ¬ (false = true ∧ v = 0) from fun g => by cases g.1), hh, if_pos (by decide)] at hy
 subst hy
 exact ⟨rfl, rfl⟩
end Stale
theorem law_rtstale (odd : Int) : Gl.Spec ρ Tryz.prog 4 [i64 odd] [] RB fun r M => r = true ∧ M = [] := by
 refine Gl.Spec.of (fun Q w h => F.gloaminglaw21.RtStale.calls odd h) fun R => ?_
 unfold F.gloaminglaw21.RtStale
 refine en_call law_fresh .nil ?_
 rintro _ _ ⟨i, q, rfl, rfl⟩
 rw [rz_new, zcAns]
 try simp only [lca, lna]
 refine en_brf rfl ?_
 refine en_call (law_do (z_list i q new_bx rz_inv0 (by decide) (by simp) (by decide) (by decide) (.inl ⟨rfl, rfl⟩) 3 0 0 (by decide) (by decide) (hd := 512) rfl)) tks ?_
 rintro _ _ ⟨a, S1, rfl, ha, b1, I1, rfl⟩
 try simp only [lca, lna]
 refine en_call (law_do (z_list i q b1 I1 (by decide) (by simp; omega) (show 1 < 512 by decide) (show 1 + 1 < 60 by decide) (.inl ⟨rfl, rfl⟩) 3 0 0 (by decide) (by decide) (hd := 513) rfl)) tks ?_
 rintro _ _ ⟨b, S2, rfl, hb, b2, I2, rfl⟩
 try simp only [lca, lna]
 refine en_nw fun b4 => en_nw fun b5 => ?_
 refine en_st (b := b4) (off := 0) rfl tk (by simp) rfl ?_
 refine en_st (b := b5) (off := 0) rfl tk (by simp) rfl ?_
 refine en_ld (k := .int .i64) (b := b5) (off := 1) (x := 513) (by rw [fa_mk]) tk rfl ?_
 refine en_call (law_do (z_refer i q (w := 2) (h := 513) (o := b) (qu := -1) b2 I2 (by decide) (by simp; omega) (show 2 < 512 by decide) (show 2 + 1 < 60 by decide) (by decide) (by decide) (by decide) (Hn.hs_held (j := 1) (t := 0) rfl (by omega) (by decide) (show 2 ≤ 512 by decide) (by decide)) ⟨_, List.mem_append_right _ (List.mem_singleton.mpr rfl), rfl⟩ (hd := 514) rfl)) tks ?_
 rintro _ _ ⟨w, S3, rfl, hw, b3, I3, rfl⟩
 try simp only [lca, lna]
 refine en_nw fun b8 => ?_
 refine en_st (b := b8) (off := 0) rfl tk (by simp) rfl ?_
 refine en_ld (k := .int .i64) (b := b4) (off := 1) (x := 512) (by rw [fa_mk]) tk rfl ?_
 have hdr := Hn.hs_drop (l := [(0, a), (0, b), (0, w)]) (j := 0) (t := 0) (a := a) (x := 512) rfl (by omega) (by decide) (show 3 ≤ 512 by decide) (by decide)
 have edr : Rx.drop (RZ [] [] (0 + 1) S3 [(0, a), (0, b), (0, w)] (List.replicate 16 0) [] [] 0 0) 512 = ((0, 0), RZ [] [] (0 + 1) S3 (Stale.ls b w) (List.replicate 16 0) [] [] 0 0) := by
  unfold Rx.drop
  show ((0, Hn.dropE (Hn.Hs [(0, a), (0, b), (0, w)]) 512), ({ RZ [] [] (0 + 1) S3 [(0, a), (0, b), (0, w)] (List.replicate 16 0) [] [] 0 0 with hs := Hn.dropS (Hn.Hs [(0, a), (0, b), (0, w)]) 512 } : Rt)) = _
  rw [hdr.1, hdr.2]; rfl
 have I4 : (RZ [] [] (0 + 1) S3 (Stale.ls b w) (List.replicate 16 0) [] [] 0 0).Inv 31 := by
  have := Rx.drop_inv I3 (by decide) 512
  change (Rx.drop (RZ [] [] (0 + 1) S3 [(0, a), (0, b), (0, w)] (List.replicate 16 0) [] [] 0 0) 512).2.Inv _ at this
  rw [edr] at this
  exact this
 refine en_isN (edr ▸ op_drop i q _ I3 512 0 0 (by decide)) tks ?_
 change Bx S3 [] 60 (Stale.os a b w) at b3
 generalize hX : RZ [] [] (0 + 1) S3 (Stale.ls b w) (List.replicate 16 0) [] [] 0 0 = X at *
 have hXs : X.hs = Hn.Hs (Stale.ls b w) := by rw [← hX]
 have hXS : X.S = S3 := by rw [← hX]
 have hXc : X.cs = [] := by rw [← hX]
 have hX3 : Rx.count X 3 = ((3, 0), X) := by
  unfold Rx.count
  rw [if_neg (by decide)]
  show (((((Sp.each X.S).length : Nat) : Int), 0), X) = _
  rw [hXS, b3.each.length_eq]; rfl
 have hbo : Bo X.S X.cs (Stale.os a b w) := by rw [hXS, hXc]; exact b3.bo
 have hh5 : Hn.held X.hs 513 = (b, 0) := by rw [hXs]; exact Hn.hs_held (j := 1) (t := 0) rfl (by omega) (by decide) (show 3 ≤ 512 by decide) (by decide)
 clear hX
 refine en_ld (k := .int .i64) (b := b4) (off := 1) (x := 512) (by rw [fa_mk]) tk rfl ?_
 refine en_nw fun b13 => ?_
 refine Tr.drop (A := blk b4 [.int .i64 0, .int .i64 512]) tk ?_
 refine Tr.perm (Takes.perm (M := [blk b13 ([512, odd].map i64), blk b5 [i64 0, i64 513], blk b8 [i64 0, i64 514]] ++ i.Q q X) tks) ?_
 refine en_lp (I := fun m u M => ∃ j : Nat, j ≤ 2 ∧ m = 2 - j ∧ u = ((j : Int), ()) ∧ M = [blk b13 ([512, odd].map i64), blk b5 [i64 0, i64 513], blk b8 [i64 0, i64 514]] ++ (i.Q q X ++ R)) 2 ⟨0, by omega, rfl, rfl, rfl⟩ ?_
 rintro m _ _ ⟨j, hj, rfl, rfl, rfl⟩ Y hY
 try simp only [lca, lna]
 refine en_br (fun hc => ?_) (fun hc => ?_)
 ·have hj' : j < 2 := by have : (j : Int) < 2 := of_decide_eq_true hc; omega
  have nxt : ∀ {LL : List Asn}, Takes LL ([blk b13 ([512, odd].map i64), blk b5 [i64 0, i64 513], blk b8 [i64 0, i64 514]] ++ i.Q q X) R → Tr ρ ρ LL (Y (IntKind.wrap .i64 ((j : Int) + 1), ())) (SP RB (fun r M => r = true ∧ M = []) R) := fun t => by
   rw [wrap64 (by omega) (by omega)]
   exact Tr.perm t.perm (hY (2 - (j + 1)) _ _ (by omega) ⟨j + 1, by omega, rfl, rfl, rfl⟩)
  refine en_ix (by omega) (by omega) ?_
  rw [fa_mk]
  refine en_ld (k := .int .i64) (b := b13) (off := 0 + (j : Int).toNat * 1) (x := [512, odd].getD j 0) rfl tk ?_ ?_
  ·rw [show 0 + (j : Int).toNat * 1 = j by omega]
   exact getD_map (by show j < 2; exact hj')
  generalize [512, odd].getD j 0 = v
  refine en_ld (k := .int .i64) (b := b5) (off := 1) (x := 513) (by rw [fa_mk]) tk rfl ?_
  refine en_br (fun e => nxt tks) (fun e1 => ?_)
  have e1 : v ≠ 513 := by simpa using e1
  refine en_ld (k := .int .i64) (b := b8) (off := 1) (x := 514) (by rw [fa_mk]) tk rfl ?_
  refine en_br (fun e => nxt tks) (fun e2 => ?_)
  have e2 : v ≠ 514 := by simpa using e2
  obtain ⟨s1, s2, s3⟩ := Stale.stale (b := b) (w := w) e1 e2
  rw [← hXs] at s1 s2 s3
  refine en_failN ((show Rx.get X v 0 = _ from Rx.by_stale s1) ▸ op_get i q X I4 v 0 0 (by decide)) tks ?_
  refine en_ld (k := .int .i64) (b := b5) (off := 1) (x := 513) (by rw [fa_mk]) tk rfl ?_
  refine en_failN ((show Rx.set X v 0 513 = _ from Rx.by_stale s1) ▸ op_set i q X I4 v 0 513 (by decide)) tks ?_
  have d7 : Dos ρ i q 7 v 0 1 X ((0, 6), X) := (show Rx.put X v 0 1 = _ from Rx.by_stale s1) ▸ op_put i q X I4 v 0 1 (by decide)
  have d8 : Dos ρ i q 8 v 0 0 X ((0, 6), X) := (show Rx.drop X v = ((0, 6), X) by unfold Rx.drop; rw [s2, s3]) ▸ op_drop i q X I4 v 0 0 (by decide)
  have d12 : Dos ρ i q 12 v 0 0 X ((0, 6), X) := (show Rx.referent X v = _ from Rx.by_stale s1) ▸ op_referent i q X I4 v 0 0 (by decide)
  have d13 : Dos ρ i q 13 v 0 0 X ((0, 6), X) := (show Rx.clear X v = _ from Rx.by_stale s1) ▸ op_clear i q X I4 v 0 0 (by decide)
  have d14 : Dos ρ i q 14 v 0 0 X ((0, 6), X) := (show Rx.enqueue X v = _ from Rx.by_stale s1) ▸ op_enqueue i q X I4 v 0 0 (by decide)
  have d17 : Dos ρ i q 17 v 0 0 X ((0, 6), X) := (show Rx.final X v = _ from Rx.by_stale s1) ▸ op_final i q X I4 v 0 0 (by decide)
  have d11 : Dos ρ i q 11 1 v (-1) X ((0, 6), X) := Stale.refer0 I4 (by decide) s1
  refine en_br (fun e3 => ?_) (fun e3 => ?_)
  ·have h0 : v ≠ 0 := by simpa using e3
   refine en_ld (k := .int .i64) (b := b5) (off := 1) (x := 513) (by rw [fa_mk]) tk rfl ?_
   have e6 : Rx.set X 513 0 v = ((0, 6), X) := by unfold Rx.set; rw [Rx.by_is hh5, Rx.byN_stale h0 s1]
   refine en_failN (e6 ▸ op_set i q X I4 513 0 v (by decide)) tks ?_
   refine en_failN d7 tks ?_
   refine en_failN d8 tks ?_
   refine en_brt e3 ?_
   refine en_failN ((show Rx.root X 0 v = _ from Rx.byN_stale h0 s1) ▸ op_root i q X I4 0 v 0 (by decide)) tks ?_
   refine en_failN d11 tks (en_failN d12 tks (en_failN d13 tks (en_failN d14 tks (en_failN d17 tks ?_))))
   exact nxt tks
  ·refine en_failN d7 tks ?_
   refine en_failN d8 tks ?_
   refine en_brf e3 ?_
   refine en_failN d11 tks (en_failN d12 tks (en_failN d13 tks (en_failN d14 tks (en_failN d17 tks ?_))))
   exact nxt tks
 ·refine en_isP (hX3 ▸ op_count i q X I4 3 0 0 (by decide)) tks ?_
  refine en_ld (k := .int .i64) (b := b5) (off := 1) (x := 513) (by rw [fa_mk]) tk rfl ?_
  have eg : Rx.get X 513 ((0 : Nat) : Int) = _ := Rx.get_adr (o := ⟨b, ⟨2, 0, 3, false⟩, [0, 0, 0]⟩) hbo (by simp) hh5 (show (2 : Int) ≠ 4 by decide) (j := 0) (show (0 : Int) < 3 by decide) (by rw [hXc]; show (0 : Int) ∈ Rx.refsH [] ⟨2, 0, 3, false⟩; decide)
  refine en_dos (eg ▸ op_get i q X I4 513 ((0 : Nat) : Int) 0 (by decide)) tks ?_
  try simp only [lca, lna]
  refine en_call (law_err _) .nil ?_
  rintro r9 _ ⟨h9, rfl⟩
  try simp only [lca, lna]
  refine en_brt (by rw [h9]; rfl) ?_
  refine en_call (law_awake21) tks ?_
  rintro x' M ⟨rfl, rfl⟩
  try simp only [lca, lna]
  exact en_rets (x := true) rfl ⟨rfl, rfl⟩ tks ens
end Go.Proofs.YtkljcopnaodfgaaGreat
