/- The law RtFinals. -/
import Derived.Test.YtkljcopnaodfgaaGreatGsRtB
import Derived.Test.YtkljcopnaodfgaaGreatGsTxRtFinals
set_option linter.unusedSimpArgs false
set_option linter.unusedVariables false
namespace Go.Proofs.YtkljcopnaodfgaaGreat
open Go Go.Gl
variable {ρ0 ρ : FR} {L L' : List Asn} {Post : Value → List Asn → Prop} {T : Tree}
namespace Fins
theorem coll {S : Spc} {l : List Hn.Slot} {ro : List Int} {ck rn : Int} {O : Ob1} (H : Bo S [] [O]) (hk : O.h.k = 3) {x' : Rt} {all : Bool} (h : (RZ [] [] 0 S l ro [O.a] [] ck rn).CollR x' all) :
  ∃ S', Bo S' [] [O] ∧ x' = if O.a ∈ (RZ [] [] 0 S l ro [O.a] [] ck rn).roots then RZ [] [] 0 S' l ro [O.a] [] ck (rn + 1) else RZ [] [] 0 S' l ro [] [O.a] ck (rn + 1) := by
 obtain ⟨z1, z2, l', m2, m3, hC, rfl⟩ := h
 have hk' : ∀ o ∈ [O], o.h.k = 3 := fun o ho => by rw [List.mem_singleton] at ho; rw [ho, hk]
 obtain ⟨c1, c2⟩ := coll_norefs H (fun o ho => by rw [hk' o ho]; decide) hC
 have hz : ∀ a, Mk.obj S a → ∀ b ∈ Mk.kids S [] a, ¬ Mk.obj S b := fun a ha b hb => by
  obtain ⟨o, ho, _, hb⟩ := H.kid_in (fun o ho => by rw [hk' o ho]; decide) ha hb
  unfold Bx.kidsO at hb
  rw [hk' o ho, if_neg (by decide), if_neg (by decide)] at hb
  cases hb
 have hob : Mk.obj S O.a := H.obj.mpr ⟨O, List.mem_singleton.mpr rfl, rfl⟩
 have h2 : Sp.has m2 O.a = true ↔ O.a ∈ (RZ [] [] 0 S l ro [O.a] [] ck rn).roots := by
  rw [c2, rch_flat2 hz]
  exact ⟨fun g => g.1, fun g => ⟨g, hob⟩⟩
 have hp : pendOf S m2 [O.a] = if O.a ∈ (RZ [] [] 0 S l ro [O.a] [] ck rn).roots then [] else [O.a] := by
  show (if lostB S m2 (0, 0, O.a, 0, 0, 0, ()) = true ∧ O.a ∉ [] then [] ++ [O.a] else []) = _
  by_cases g : O.a ∈ (RZ [] [] 0 S l ro [O.a] [] ck rn).roots
  ·rw [if_pos g, if_neg (fun q => (lost_iff.mp q.1).2 (h2.mpr g))]
  ·rw [if_neg g, if_pos ⟨lost_iff.mpr ⟨hob, fun q => g (h2.mp q)⟩, by simp⟩]; rfl
 have h3 : Sp.has m3 O.a = true := by
  rw [hC.has3]
  by_cases g : Sp.has m2 O.a = true
  ·exact .inl g
  ·right
   show Mk.Rch S [] (pendOf S m2 [O.a]) O.a
   rw [hp, if_neg (fun q => g (h2.mpr q))]
   exact .root (by simp) hob
 refine ⟨Sw.sweep S (Mk.all m3), ?_, ?_⟩
 ·have := H.sweep (Mk.all m3)
  rwa [List.filter_cons_of_pos (by rw [decide_eq_true_iff, Mk.mem_all]; exact h3), List.filter_nil] at this
 ·rw [show clrOf (RZ [] [] 0 S l ro [O.a] [] ck rn).S m2 m3 l' = [] from c1]
  show (RZ [] [] 0 S l ro [O.a] [] ck rn).after [] (putOf S m3 []) (pendOf S m2 [O.a]) (Mk.all m3) = _
  rw [hp]
  by_cases g : O.a ∈ (RZ [] [] 0 S l ro [O.a] [] ck rn).roots
  ·rw [if_pos g, if_pos g]; rfl
  ·rw [if_neg g, if_neg g]
   unfold Rt.after
   have e : Fn.pend [O.a] [] [O.a] = ([], [O.a]) := by unfold Fn.pend; simp [Fn.pend1]
   show (⟨_, _, _, _, _, _, (Fn.pend [O.a] [] [O.a]).1, (Fn.pend [O.a] [] [O.a]).2, _, _, _, _, _⟩ : Rt) = _
   rw [e]; rfl
end Fins
theorem law_rtfinals (a0 b0 v : Int) (ha : 0 ≤ a0 ∧ a0 < 256) (hb : 0 ≤ b0 ∧ b0 < 256) : Gl.Spec ρ Tryz.prog 7 [.int .u8 a0, .int .u8 b0, i64 v] [] RB fun r M => r = true ∧ M = [] := by
 refine Gl.Spec.of (fun Q w h => F.gloaminglaw21.RtFinals.calls a0 b0 v h) fun R => ?_
 unfold F.gloaminglaw21.RtFinals
 rw [wrap64 (n := a0) (by omega) (by omega), wrap64 (n := b0) (by omega) (by omega), Int.tmod_eq_emod_of_nonneg ha.1, Int.tmod_eq_emod_of_nonneg hb.1]
 obtain ⟨k, hk, hk3⟩ : ∃ k : Int, a0 % 3 = k ∧ (0 ≤ k ∧ k < 3) := ⟨_, rfl, by omega⟩
 obtain ⟨j, hj, hj16⟩ : ∃ j : Nat, b0 % 16 = (j : Int) ∧ j < 16 := ⟨(b0 % 16).toNat, by omega, by omega⟩
 rw [hk, hj]
 refine en_call law_fresh .nil ?_
 rintro _ _ ⟨i, q, rfl, rfl⟩
 rw [rz_new, zcAns]
 try simp only [lca, lna]
 refine en_brf rfl (en_need (by decide) (en_need (by decide) ?_))
 refine en_call (law_do (z_list i q new_bx rz_inv0 (by decide) (by simp) (by decide) (by decide) (.inr ⟨rfl, rfl⟩) 2 0 0 (by decide) (by decide) (hd := 512) rfl)) tks ?_
 rintro _ _ ⟨o, S1, rfl, ho, x1, I1, rfl⟩
 try simp only [lca, lna]
 change Bx S1 [] 60 [⟨o, ⟨3, 0, 2, false⟩, [0, 0]⟩] at x1
 refine en_nw fun b3 => ?_
 refine en_st (b := b3) (off := 0) rfl tk (by simp) rfl ?_
 refine en_ld (k := .int .i64) (b := b3) (off := 1) (x := 512) (by rw [fa_mk]) tk rfl ?_
 have h1 := Hn.hs_held (l := [(0, o)]) (j := 0) (t := 0) (a := o) (x := 512) rfl (by omega) (by decide) (show 1 ≤ 512 by decide) (by decide)
 have e2 := Rx.put_num (x := RZ [] [] 0 S1 [(0, o)] (List.replicate 16 0) [] [] 0 0) (o := ⟨o, ⟨3, 0, 2, false⟩, [0, 0]⟩) x1.bo (by simp) h1 (show (3 : Int) ≠ 4 by decide) (j := 0) (show (0 : Int) < 2 by decide) (by show (0 : Int) ∉ Rx.refsH [] ⟨3, 0, 2, false⟩; decide) v
 refine en_dos (e2 ▸ op_put i q _ I1 512 ((0 : Nat) : Int) v (by decide)) tks ?_
 have I2 := Rx.put_inv I1 512 ((0 : Nat) : Int) v
 change (Rx.put (RZ [] [] 0 S1 [(0, o)] (List.replicate 16 0) [] [] 0 0) 512 ((0 : Nat) : Int) v).2.Inv _ at I2
 rw [e2] at I2
 have x2 := (x1.put (i := 0) rfl (k := 0) (show (0 : Int) < 2 by decide) v).2.bo
 dsimp only at I2 x2 ⊢
 generalize (Ob.put S1 o ((0 : Nat) : Int) v).2 = S2 at *
 change Bo S2 [] [⟨o, ⟨3, 0, 2, false⟩, [v, 0]⟩] at x2
 refine en_ld (k := .int .i64) (b := b3) (off := 1) (x := 512) (by rw [fa_mk]) tk rfl ?_
 obtain ⟨f1, x3⟩ := x2.final (o := ⟨o, ⟨3, 0, 2, false⟩, [v, 0]⟩) (by simp) (show (3 : Int) ≠ 4 by decide) rfl
 change (Ob.final S2 o).1 = 0 at f1
 have x3 : Bo (Ob.final S2 o).2 [] [⟨o, ⟨3, 0, 2, true⟩, [v, 0]⟩] := by
  have : ([⟨o, ⟨3, 0, 2, false⟩, [v, 0]⟩] : List Ob1).map (Om.fi o) = [⟨o, ⟨3, 0, 2, true⟩, [v, 0]⟩] := by simp [Om.fi]
  rw [← this]; exact x3
 have e3 : Rx.final (RZ [] [] 0 S2 [(0, o)] (List.replicate 16 0) [] [] 0 0) 512 = ((0, 0), RZ [] [] 0 (Ob.final S2 o).2 [(0, o)] (List.replicate 16 0) [o] [] 0 0) := by
  unfold Rx.final
  rw [Rx.by_is h1, f1, if_pos rfl]; rfl
 refine en_isN (e3 ▸ op_final i q _ I2 512 0 0 (by decide)) tks ?_
 have I3 := Rx.final_inv I2 512
 rw [e3] at I3
 dsimp only at I3
 generalize (Ob.final S2 o).2 = S3 at *
 refine en_ld (k := .int .i64) (b := b3) (off := 1) (x := 512) (by rw [fa_mk]) tk rfl ?_
 have f2 : Ob.final S3 o = (4, S3) := by
  unfold Ob.final
  rw [show Ob.head S3 o = some ⟨3, 0, 2, true⟩ from x3.head ⟨o, ⟨3, 0, 2, true⟩, [v, 0]⟩ (by simp)]
  rfl
 have e4 : Rx.final (RZ [] [] 0 S3 [(0, o)] (List.replicate 16 0) [o] [] 0 0) 512 = ((0, 4), RZ [] [] 0 S3 [(0, o)] (List.replicate 16 0) [o] [] 0 0) := by
  unfold Rx.final
  rw [Rx.by_is h1, f2]; rfl
 refine en_failN (e4 ▸ op_final i q _ I3 512 0 0 (by decide)) tks ?_
 refine en_collectN I3 (by decide) (.inl rfl) tks fun x' hC Ic => ?_
 obtain ⟨S4, x4, hx'⟩ := Fins.coll (S := S3) (l := [(0, o)]) (ro := List.replicate 16 0) (ck := 0) (rn := 0) (O := ⟨o, ⟨3, 0, 2, true⟩, [v, 0]⟩) x3 rfl hC
 change x' = if o ∈ (RZ [] [] 0 S3 [(0, o)] (List.replicate 16 0) [o] [] 0 0).roots then RZ [] [] 0 S4 [(0, o)] (List.replicate 16 0) [o] [] 0 (0 + 1) else RZ [] [] 0 S4 [(0, o)] (List.replicate 16 0) [] [o] 0 (0 + 1) at hx'
 have m1 : o ∈ (RZ [] [] 0 S3 [(0, o)] (List.replicate 16 0) [o] [] 0 0).roots := (z_roots (l := [(0, o)]) (show 1 ≤ 512 by decide) ho).mpr (.inl ⟨_, List.mem_singleton.mpr rfl, rfl⟩)
 rw [if_pos m1] at hx'
 subst hx'
 have n3 := x3.each.length_eq
 change (Sp.each S3).length = 1 at n3
 have n4 := x4.each.length_eq
 change (Sp.each S4).length = 1 at n4
 refine ⟨by
  show (((Sp.each S3).length : Nat) : Int) - (((Sp.each S4).length : Nat) : Int) = 0
  omega, ?_⟩
 try simp only [lca, lna]
 have ec : Rx.count (RZ [] [] 0 S4 [(0, o)] (List.replicate 16 0) [o] [] 0 (0 + 1)) 2 = ((0, 0), RZ [] [] 0 S4 [(0, o)] (List.replicate 16 0) [o] [] 0 (0 + 1)) := by unfold Rx.count; rw [if_neg (by decide)]; rfl
 refine en_isN (ec ▸ op_count i q _ Ic 2 0 0 (by decide)) tks ?_
 refine en_ld (k := .int .i64) (b := b3) (off := 1) (x := 512) (by rw [fa_mk]) tk rfl ?_
 have e5 := z_drop (cs := []) (rows := []) (ser := 0) (S := S4) (ro := List.replicate 16 0) (pe := []) (wa := [o]) (ck := 0) (rn := 0 + 1) (l := [(0, o)]) (j := 0) (t := 0) (a := o) (h := 512) rfl (by omega) (by decide) (show 1 ≤ 512 by decide) (by decide)
 refine en_dos (e5 ▸ op_drop i q _ Ic 512 0 0 (by decide)) tks ?_
 have I5 := Rx.drop_inv Ic (by decide) 512
 rw [e5] at I5
 dsimp only [List.set] at I5 ⊢
 refine en_collectN I5 (by decide) (.inr rfl) tks fun x' hC Id => ?_
 obtain ⟨S5, x5, hx'⟩ := Fins.coll (S := S4) (l := [(0 + 1, 0)]) (ro := List.replicate 16 0) (ck := 0) (rn := 0 + 1) (O := ⟨o, ⟨3, 0, 2, true⟩, [v, 0]⟩) x4 rfl hC
 change x' = if o ∈ (RZ [] [] 0 S4 [(0 + 1, 0)] (List.replicate 16 0) [o] [] 0 (0 + 1)).roots then RZ [] [] 0 S5 [(0 + 1, 0)] (List.replicate 16 0) [o] [] 0 (0 + 1 + 1) else RZ [] [] 0 S5 [(0 + 1, 0)] (List.replicate 16 0) [] [o] 0 (0 + 1 + 1) at hx'
 have m2 : o ∉ (RZ [] [] 0 S4 [(0 + 1, 0)] (List.replicate 16 0) [o] [] 0 (0 + 1)).roots := fun g => by
  rcases (z_roots (l := [(0 + 1, 0)]) (show 1 ≤ 512 by decide) ho).mp g with ⟨e, he, g⟩ | g | ⟨r, hr, _⟩ | g
  ·rw [List.mem_singleton] at he; subst he; change (0 : Int) = o at g; omega
  ·have := List.eq_of_mem_replicate g; omega
  ·cases hr
  ·cases g
 rw [if_neg m2] at hx'
 subst hx'
 have n5 := x5.each.length_eq
 change (Sp.each S5).length = 1 at n5
 refine ⟨by
  show (((Sp.each S4).length : Nat) : Int) - (((Sp.each S5).length : Nat) : Int) = 0
  omega, ?_⟩
 try simp only [lca, lna]
 have ec : Rx.count (RZ [] [] 0 S5 [(0 + 1, 0)] (List.replicate 16 0) [] [o] 0 (0 + 1 + 1)) 2 = ((1, 0), RZ [] [] 0 S5 [(0 + 1, 0)] (List.replicate 16 0) [] [o] 0 (0 + 1 + 1)) := by unfold Rx.count; rw [if_neg (by decide)]; rfl
 refine en_isN (ec ▸ op_count i q _ Id 2 0 0 (by decide)) tks ?_
 have bad : ∀ {a b c : Int}, (a < 0 ∨ a ≥ 1 ∨ b < 0 ∨ b > 2) ∨ (b = 1 ∧ (c < 0 ∨ c ≥ 16)) → Rx.run (RZ [] [] 0 S5 [(0 + 1, 0)] (List.replicate 16 0) [] [o] 0 (0 + 1 + 1)) a b c = ((0, 1), RZ [] [] 0 S5 [(0 + 1, 0)] (List.replicate 16 0) [] [o] 0 (0 + 1 + 1)) := fun {a b c} h => by
  unfold Rx.run
  by_cases g : a < 0 ∨ a ≥ 1 ∨ b < 0 ∨ b > 2
  ·rw [if_pos (by show a < 0 ∨ a ≥ ((1 : Nat) : Int) ∨ b < 0 ∨ b > 2; omega)]
  ·have hc := h.resolve_left g
   rw [if_neg (by show ¬ (a < 0 ∨ a ≥ ((1 : Nat) : Int) ∨ b < 0 ∨ b > 2); omega), if_pos ⟨hc.1, by unfold Rx.rootR; rw [if_neg (by omega)]; decide⟩]
 refine en_failN (bad (a := 1) (b := 0) (c := 0) (by omega) ▸ op_run i q _ Id 1 0 0 (by decide)) tks ?_
 refine en_failN (bad (a := 0) (b := 3) (c := 0) (by omega) ▸ op_run i q _ Id 0 3 0 (by decide)) tks ?_
 refine en_failN (bad (a := 0) (b := 1) (c := 16) (by omega) ▸ op_run i q _ Id 0 1 16 (by decide)) tks ?_
 have gone : ∀ {ro : List Int} {l : List Hn.Slot} {rn : Int} {S6 : Spc} {a b c : Int}, a ≥ 0 → Rx.run (RZ [] [] 0 S6 l ro [] [] 0 rn) a b c = ((0, 1), RZ [] [] 0 S6 l ro [] [] 0 rn) := fun {ro l rn S6 a b c} h => by
  unfold Rx.run
  rw [if_pos (by show a < 0 ∨ a ≥ ((0 : Nat) : Int) ∨ b < 0 ∨ b > 2; omega)]
 have run0 : ∀ {b c : Int}, 0 ≤ b ∧ b ≤ 2 → (b = 1 → 0 ≤ c ∧ c < 16) → Rx.run (RZ [] [] 0 S5 [(0 + 1, 0)] (List.replicate 16 0) [] [o] 0 (0 + 1 + 1)) 0 b c =
   if b = 1 then ((0, Rx.placeE c o), RZ [] [] 0 S5 [(0 + 1, 0)] (Rx.placeS (List.replicate 16 0) c o) [] [] 0 (0 + 1 + 1)) else
   if b = 2 then (Rx.giveR (RZ [] [] 0 S5 [(0 + 1, 0)] (List.replicate 16 0) [] [] 0 (0 + 1 + 1)) o, Rx.giveS (RZ [] [] 0 S5 [(0 + 1, 0)] (List.replicate 16 0) [] [] 0 (0 + 1 + 1)) o) else
   ((0, 0), RZ [] [] 0 S5 [(0 + 1, 0)] (List.replicate 16 0) [] [] 0 (0 + 1 + 1)) := fun {b c} hb hc => by
  have hf : (Hn.free (Hn.Hs [(0 + 1, 0)])).isNone = false := by kernel_rfl
  unfold Rx.run
  rw [if_neg (by show ¬ ((0 : Int) < 0 ∨ (0 : Int) ≥ ((1 : Nat) : Int) ∨ b < 0 ∨ b > 2); omega), if_neg (fun g => g.2 (by unfold Rx.rootR; rw [if_pos (hc g.1)])), if_neg (fun g => by
   have : Hn.free (Hn.Hs [(0 + 1, 0)]) = none := g.2
   rw [this] at hf; cases hf)]
  rfl
 have last : ∀ {rs : List Int} {S6 : Spc} {N : Int} {b42 : Nat} {LL LR : List Asn}, Bo S6 [] [⟨o, ⟨3, 0, 2, true⟩, [v, 0]⟩] → (RZ [] [] 0 S6 [(1, o)] rs [] [] 0 (0 + 1 + 1 + 1)).Inv N → N < 2 ^ 40 → LL.Perm (blk b42 [i64 0, i64 1024] :: i.Q q (RZ [] [] 0 S6 [(1, o)] rs [] [] 0 (0 + 1 + 1 + 1)) ++ LR) →
   Tr ρ ρ LL (ld (.l (.int .i64)) (fa (⟨b42, 0, none⟩) 1) fun (x43 : Int) =>
          call Tryz.prog 15 [.pointer (some ⟨q, 0, none⟩), .int .i64 5, .int .i64 x43, .int .i64 0, .int .i64 0] (.one (.g [.int .i64, .int .i64])) fun (r44 : LTs _) =>
          call Tryz.prog 16 [.agg #[.int .i64 r44.1, .int .i64 r44.2.1], .int .i64 v] (.one (.l .bool)) fun (r45 : Bool) =>
          br r45
          (ld (.l (.int .i64)) (fa (⟨b42, 0, none⟩) 1) fun (x46 : Int) =>
          call Tryz.prog 15 [.pointer (some ⟨q, 0, none⟩), .int .i64 17, .int .i64 x46, .int .i64 0, .int .i64 0] (.one (.g [.int .i64, .int .i64])) fun (r47 : LTs _) =>
          call Tryz.prog 17 [.agg #[.int .i64 r47.1, .int .i64 r47.2.1], .int .i64 4] (.one (.l .bool)) fun (r48 : Bool) =>
          br r48
           (call Tryz.prog 18 [] (.one (.l .bool)) fun (r49 : Bool) =>
           ret (.bool r49))
           (ret (.bool false)))
          (ret (.bool false))) (SP RB (fun r M => r = true ∧ M = []) LR) := fun {rs S6 N b42 LL LR} x6 I6 hN hp => by
  refine Tr.perm hp ?_
  try simp only [lca, lna]
  have hh := Hn.hs_held (l := [(1, o)]) (j := 0) (t := 1) (a := o) (x := 1024) rfl (by omega) (by decide) (show 1 ≤ 512 by decide) (by decide)
  refine en_ld (k := .int .i64) (b := b42) (off := 1) (x := 1024) (by rw [fa_mk]) tk rfl ?_
  have e7 := Rx.get_num (x := RZ [] [] 0 S6 [(1, o)] rs [] [] 0 (0 + 1 + 1 + 1)) (o := ⟨o, ⟨3, 0, 2, true⟩, [v, 0]⟩) x6 (by simp) hh (show (3 : Int) ≠ 4 by decide) (j := 0) (show (0 : Int) < 2 by decide) (by show (0 : Int) ∉ Rx.refsH [] ⟨3, 0, 2, true⟩; decide)
  refine en_isP (e7 ▸ op_get i q _ I6 1024 ((0 : Nat) : Int) 0 (by omega)) tks ?_
  refine en_ld (k := .int .i64) (b := b42) (off := 1) (x := 1024) (by rw [fa_mk]) tk rfl ?_
  have f2 : Ob.final S6 o = (4, S6) := by
   unfold Ob.final
   rw [show Ob.head S6 o = some ⟨3, 0, 2, true⟩ from x6.head ⟨o, ⟨3, 0, 2, true⟩, [v, 0]⟩ (by simp)]
   rfl
  have e8 : Rx.final (RZ [] [] 0 S6 [(1, o)] rs [] [] 0 (0 + 1 + 1 + 1)) 1024 = ((0, 4), RZ [] [] 0 S6 [(1, o)] rs [] [] 0 (0 + 1 + 1 + 1)) := by
   unfold Rx.final
   rw [Rx.by_is hh, f2]; rfl
  refine en_failP (e8 ▸ op_final i q _ I6 1024 0 0 (by omega)) tks ?_
  refine en_call (law_awake21) tks ?_
  rintro x' M ⟨rfl, rfl⟩
  try simp only [lca, lna]
  exact en_rets (x := true) rfl ⟨rfl, rfl⟩ tks ens
 have fin : ∀ {ro : List Int} {l : List Hn.Slot} {x' : Rt} {all : Bool}, (RZ [] [] 0 S5 l ro [] [] 0 (0 + 1 + 1)).CollR x' all → o ∈ (RZ [] [] 0 S5 l ro [] [] 0 (0 + 1 + 1)).roots → ∃ S6, x' = RZ [] [] 0 S6 l ro [] [] 0 (0 + 1 + 1 + 1) ∧ Bo S6 [] [⟨o, ⟨3, 0, 2, true⟩, [v, 0]⟩] := fun {ro l x' all} hC hm => by
  obtain ⟨S6, e, x6⟩ := z_collectD x5 (by simp) hC
  rw [List.filter_cons_of_pos (by simpa using hm), List.filter_nil] at x6
  exact ⟨S6, e, x6⟩
 have h3 : k = 0 ∨ k = 1 ∨ k = 2 := by omega
 rcases h3 with rfl | rfl | rfl
 ·have e6 := run0 (b := 0) (c := (j : Int)) (by decide) (fun g => by cases g)
  rw [if_neg (by decide), if_neg (by decide)] at e6
  refine en_dos (e6 ▸ op_run i q _ Id 0 0 j (by decide)) tks ?_
  have I6 := Rx.run_inv Id 0 0 j
  rw [e6] at I6
  dsimp only at I6 ⊢
  try simp only [lca, lna]
  refine en_nw fun b29 => ?_
  refine en_st (b := b29) (off := 0) rfl tk (by simp) rfl ?_
  refine en_ld (k := .int .i64) (b := b29) (off := 0) (x := 0) (by rw [fa_mk]) tk rfl ?_
  refine en_call (law_err 0) tks ?_
  rintro x' M ⟨rfl, rfl⟩
  try simp only [lca, lna]
  refine en_brf rfl ?_
  refine en_ld (k := .int .i64) (b := b29) (off := 1) (x := 0) (by rw [fa_mk]) tk rfl ?_
  refine en_brf rfl ?_
  refine en_failN (gone (a := 0) (b := 0) (c := 0) (by decide) ▸ op_run i q _ I6 0 0 0 (by decide)) tks ?_
  refine en_jnI (en_brf rfl ?_)
  dsimp only
  refine en_collectN I6 (by decide) (.inl rfl) tks fun x' hC Ie => ?_
  obtain ⟨S6, rfl, x6⟩ := z_collectD x5 (by simp) hC
  have m3 : o ∉ (RZ [] [] 0 S5 [(0 + 1, 0)] (List.replicate 16 0) [] [] 0 (0 + 1 + 1)).roots := fun g => by
   rcases (z_roots (l := [(0 + 1, 0)]) (show 1 ≤ 512 by decide) ho).mp g with ⟨e, he, g⟩ | g | ⟨r, hr, _⟩ | g
   ·rw [List.mem_singleton] at he; subst he; change (0 : Int) = o at g; omega
   ·have := List.eq_of_mem_replicate g; omega
   ·cases hr
   ·cases g
  rw [List.filter_cons_of_neg (by simpa using m3), List.filter_nil] at x6
  have n6 := x6.each.length_eq
  change (Sp.each S6).length = 0 at n6
  refine ⟨by
   show (((Sp.each S5).length : Nat) : Int) - (((Sp.each S6).length : Nat) : Int) = 1
   omega, ?_⟩
  try simp only [lca, lna]
  have ec : Rx.count (RZ [] [] 0 S6 [(0 + 1, 0)] (List.replicate 16 0) [] [] 0 (0 + 1 + 1 + 1)) 2 = ((0, 0), RZ [] [] 0 S6 [(0 + 1, 0)] (List.replicate 16 0) [] [] 0 (0 + 1 + 1 + 1)) := by unfold Rx.count; rw [if_neg (by decide)]; rfl
  refine en_isN (ec ▸ op_count i q _ Ie 2 0 0 (by decide)) tks ?_
  refine en_ldg (b := b29) (x := ((0 : Int), (0 : Int), ())) [] rfl tk rfl ?_
  refine en_nw fun b42 => ?_
  refine en_st (b := b42) (off := 0) rfl tk (by simp) rfl ?_
  refine en_brf rfl (en_brt rfl ?_)
  refine en_call (law_awake21) tks ?_
  rintro x' M ⟨rfl, rfl⟩
  try simp only [lca, lna]
  exact en_rets (x := true) rfl ⟨rfl, rfl⟩ tks ens
 ·have e6 := run0 (b := 1) (c := (j : Int)) (by decide) (fun _ => by omega)
  have p1 : Rx.placeE (j : Int) o = 0 := by unfold Rx.placeE; rw [if_pos ⟨by omega, by omega⟩]
  have p2 : Rx.placeS (List.replicate 16 0) (j : Int) o = (List.replicate 16 0).set j o := by unfold Rx.placeS; rw [if_pos ⟨by omega, by omega⟩, Int.toNat_natCast]
  rw [if_pos rfl, p1, p2] at e6
  have r1 : ((List.replicate 16 (0 : Int)).set j o).getD j 0 = o := by rw [List.getD_eq_getElem?_getD, List.getElem?_set_self (by rw [List.length_replicate]; exact hj16)]; rfl
  have r2 : o ∈ (List.replicate 16 (0 : Int)).set j o := List.mem_set (by rw [List.length_replicate]; exact hj16) _
  refine en_dos (e6 ▸ op_run i q _ Id 0 1 j (by decide)) tks ?_
  have I6 := Rx.run_inv Id 0 1 j
  rw [e6] at I6
  dsimp only at I6 ⊢
  generalize (List.replicate 16 (0 : Int)).set j o = rs at *
  try simp only [lca, lna]
  refine en_nw fun b29 => ?_
  refine en_st (b := b29) (off := 0) rfl tk (by simp) rfl ?_
  refine en_ld (k := .int .i64) (b := b29) (off := 0) (x := 0) (by rw [fa_mk]) tk rfl ?_
  refine en_call (law_err 0) tks ?_
  rintro x' M ⟨rfl, rfl⟩
  try simp only [lca, lna]
  refine en_brf rfl ?_
  refine en_ld (k := .int .i64) (b := b29) (off := 1) (x := 0) (by rw [fa_mk]) tk rfl ?_
  refine en_brf rfl ?_
  refine en_failN (gone (a := 0) (b := 0) (c := 0) (by decide) ▸ op_run i q _ I6 0 0 0 (by decide)) tks ?_
  refine en_jnI (en_brt rfl ?_)
  dsimp only
  refine en_collectN I6 (by decide) (.inl rfl) tks fun x' hC Ie => ?_
  obtain ⟨S6, rfl, x6⟩ := fin hC ((z_roots (l := [(0 + 1, 0)]) (show 1 ≤ 512 by decide) ho).mpr (.inr (.inl r2)))
  have n6 := x6.each.length_eq
  change (Sp.each S6).length = 1 at n6
  refine ⟨by
   show (((Sp.each S5).length : Nat) : Int) - (((Sp.each S6).length : Nat) : Int) = 0
   omega, ?_⟩
  try simp only [lca, lna]
  have ec : Rx.count (RZ [] [] 0 S6 [(0 + 1, 0)] rs [] [] 0 (0 + 1 + 1 + 1)) 2 = ((0, 0), RZ [] [] 0 S6 [(0 + 1, 0)] rs [] [] 0 (0 + 1 + 1 + 1)) := by unfold Rx.count; rw [if_neg (by decide)]; rfl
  refine en_isN (ec ▸ op_count i q _ Ie 2 0 0 (by decide)) tks ?_
  refine en_ldg (b := b29) (x := ((0 : Int), (0 : Int), ())) [] rfl tk rfl ?_
  refine en_nw fun b42 => ?_
  refine en_st (b := b42) (off := 0) rfl tk (by simp) rfl ?_
  refine en_brt rfl ?_
  have e7 : Rx.take (RZ [] [] 0 S6 [(0 + 1, 0)] rs [] [] 0 (0 + 1 + 1 + 1)) (j : Int) = ((1024, 0), RZ [] [] 0 S6 [(1, o)] rs [] [] 0 (0 + 1 + 1 + 1)) := by
   have e : Rx.rootR rs (j : Int) = (o, 0) := by unfold Rx.rootR; rw [if_pos (by omega), Int.toNat_natCast, r1]
   unfold Rx.take
   rw [show (RZ [] [] 0 S6 [(0 + 1, 0)] rs [] [] 0 (0 + 1 + 1 + 1)).ro = rs from rfl, e, if_neg (fun g => g rfl)]
   obtain ⟨g1, g2⟩ := Rx.give_at (x := RZ [] [] 0 S6 [(0 + 1, 0)] rs [] [] 0 (0 + 1 + 1 + 1)) (l := [(0 + 1, 0)]) (j := 0) (t := 1) rfl rfl (fun t ht => by omega) (show 1 ≤ 512 by decide) ho
   exact Prod.ext g1 g2
  refine en_dos (e7 ▸ op_take i q _ Ie j 0 0 (by decide)) tks ?_
  have I7 := Rx.take_inv Ie (j : Int)
  rw [e7] at I7
  dsimp only at I7 ⊢
  try simp only [lca, lna]
  refine Tr.imp (A := blk b42 _) (A' := blk b42 [i64 0, i64 0]) tk (fun _ h => h) ?_
  refine en_st (b := b42) (off := 0) rfl tk (by simp) rfl ?_
  refine en_brf rfl ?_
  refine Tr.drop (A := blk b29 _) tk (Tr.drop (A := blk b3 _) tk ?_)
  exact last x6 I7 (by decide) (Takes.perm tks)
 ·have e6 := run0 (b := 2) (c := (j : Int)) (by decide) (fun _ => by omega)
  rw [if_neg (by decide), if_pos rfl] at e6
  obtain ⟨g1, g2⟩ := Rx.give_at (x := RZ [] [] 0 S5 [(0 + 1, 0)] (List.replicate 16 0) [] [] 0 (0 + 1 + 1)) (l := [(0 + 1, 0)]) (j := 0) (t := 1) rfl rfl (fun t ht => by omega) (show 1 ≤ 512 by decide) ho
  replace e6 : Rx.run (RZ [] [] 0 S5 [(0 + 1, 0)] (List.replicate 16 0) [] [o] 0 (0 + 1 + 1)) 0 2 (j : Int) = ((1024, 0), RZ [] [] 0 S5 [(1, o)] (List.replicate 16 0) [] [] 0 (0 + 1 + 1)) := e6.trans (Prod.ext g1 g2)
  refine en_dos (e6 ▸ op_run i q _ Id 0 2 j (by decide)) tks ?_
  have I6 := Rx.run_inv Id 0 2 j
  rw [e6] at I6
  dsimp only at I6 ⊢
  try simp only [lca, lna]
  refine en_nw fun b29 => ?_
  refine en_st (b := b29) (off := 0) rfl tk (by simp) rfl ?_
  refine en_ld (k := .int .i64) (b := b29) (off := 0) (x := 0) (by rw [fa_mk]) tk rfl ?_
  refine en_call (law_err 0) tks ?_
  rintro x' M ⟨rfl, rfl⟩
  try simp only [lca, lna]
  refine en_brf rfl ?_
  refine en_ld (k := .int .i64) (b := b29) (off := 1) (x := 1024) (by rw [fa_mk]) tk rfl ?_
  refine en_brf rfl ?_
  refine en_failN (gone (a := 0) (b := 0) (c := 0) (by decide) ▸ op_run i q _ I6 0 0 0 (by decide)) tks ?_
  refine en_jnI (en_brt rfl ?_)
  dsimp only
  refine en_collectN I6 (by decide) (.inl rfl) tks fun x' hC Ie => ?_
  obtain ⟨S6, rfl, x6⟩ := fin hC ((z_roots (l := [(1, o)]) (show 1 ≤ 512 by decide) ho).mpr (.inl ⟨_, List.mem_singleton.mpr rfl, rfl⟩))
  have n6 := x6.each.length_eq
  change (Sp.each S6).length = 1 at n6
  refine ⟨by
   show (((Sp.each S5).length : Nat) : Int) - (((Sp.each S6).length : Nat) : Int) = 0
   omega, ?_⟩
  try simp only [lca, lna]
  have ec : Rx.count (RZ [] [] 0 S6 [(1, o)] (List.replicate 16 0) [] [] 0 (0 + 1 + 1 + 1)) 2 = ((0, 0), RZ [] [] 0 S6 [(1, o)] (List.replicate 16 0) [] [] 0 (0 + 1 + 1 + 1)) := by unfold Rx.count; rw [if_neg (by decide)]; rfl
  refine en_isN (ec ▸ op_count i q _ Ie 2 0 0 (by decide)) tks ?_
  refine en_ldg (b := b29) (x := ((0 : Int), (1024 : Int), ())) [] rfl tk rfl ?_
  refine en_nw fun b42 => ?_
  refine en_st (b := b42) (off := 0) rfl tk (by simp) rfl ?_
  refine en_brf rfl (en_brf rfl ?_)
  refine Tr.drop (A := blk b29 _) tk (Tr.drop (A := blk b3 _) tk ?_)
  exact last x6 Ie (by decide) (Takes.perm tks)
end Go.Proofs.YtkljcopnaodfgaaGreat
