/- The law GcTimes. -/
import Derived.Test.YtdplphebjhfliaaGreatGsL20c
import Derived.Test.YtdplphebjhfliaaGreatGsTxGcTimes
set_option linter.unusedSimpArgs false
set_option linter.unusedVariables false
namespace Go.Proofs.YtdplphebjhfliaaGreat
open Go Go.Gl
variable {ρ0 ρ : FR} {L L' : List Asn} {Post : Value → List Asn → Prop} {T : Tree}
namespace Times
abbrev bx (o : Int) : Ob1 := ⟨o, ⟨2, 0, 1, false⟩, [0]⟩
abbrev sf (s o st : Int) : Ob1 := ⟨s, ⟨4, 1, 5, false⟩, [o, 0, 0, st, 1]⟩
theorem coll {S : Spc} {o s st : Int} (H : Bo S [] [bx o, sf s o st]) (hne : o ≠ s) {y : In7} {ros : List Int} (hro : ∀ a, Mk.obj S a → (a ∈ ros ↔ a = s)) {l : List Rf6} {m2 m3 : List Bool} (hC : Coll S [] y ros [] l m2 m3) (kp : Bool) (hkp : kp = (!y.all && Sf.keep y.clock st y.free y.rate)) :
  clrOf S m2 m3 l = (if kp then [] else [s]) ∧ (∀ a, Sp.has m3 a = true ↔ (a = s ∨ (kp = true ∧ a = o))) ∧ pendOf S m2 [] = [] ∧ (∀ l', (∀ a ∈ l', a = s) → putOf S m3 l' = []) := by
 have hr : refsOf S = [(s, 1, o, 0, st, 1, ())] := List.perm_singleton.mp H.refs
 have hl : l = [(s, 1, o, 0, st, 1, ())] := by
  have := hC.perm
  rw [hr] at this
  exact List.perm_singleton.mp this
 have hos : Mk.obj S s := H.obj.mpr ⟨sf s o st, by simp, rfl⟩
 have hoo : Mk.obj S o := H.obj.mpr ⟨bx o, by simp, rfl⟩
 have hz := Mk.obj_zero H.hw
 have hcl : ∀ c, Mk.obj S c → ∀ d ∈ Mk.kids S [] c, Mk.obj S d → False := fun c hc d hd ho => by
  obtain ⟨x, hx, e, hk⟩ := H.kid_in (by simp) hc hd
  simp only [List.mem_cons, List.not_mem_nil, or_false] at hx
  rcases hx with rfl | rfl
  ·have : d = 0 := by simpa [Bx.kidsO] using hk
   exact hz (this ▸ ho)
  ·have : d = 0 := by simpa [Bx.kidsO] using hk
   exact hz (this ▸ ho)
 have h2 : ∀ a, Sp.has m2 a = true ↔ (a = s ∨ (kp = true ∧ a = o)) := fun a => by
  rw [hC.has2, hr]
  constructor
  ·refine SoftR.le (T := fun a => a = s ∨ (kp = true ∧ a = o)) (fun d hd => ?_) (fun r hr' e1 e2 _ e4 _ => ?_) (fun c _ hc d hd ho => (hcl c hc d hd ho).elim)
   ·exact hd.le (T := fun a => a = s ∨ (kp = true ∧ a = o)) (fun c hc ho => .inl ((hro c ho).mp hc)) (fun c _ hc d hd ho => (hcl c hc d hd ho).elim)
   ·rw [List.mem_singleton] at hr'
    subst hr'
    exact .inr ⟨by rw [hkp, e2]; exact e4, rfl⟩
  ·rintro (rfl | ⟨e, rfl⟩)
   ·exact .base (.root ((hro _ hos).mpr rfl) hos)
   ·rw [hkp, Bool.and_eq_true, Bool.not_eq_true'] at e
    exact .keep (r := (s, 1, a, 0, st, 1, ())) (by simp) rfl e.1 (.base (.root ((hro _ hos).mpr rfl) hos)) e.2 hoo (.root (by simp) hoo)
 have h3 : ∀ a, Sp.has m3 a = true ↔ (a = s ∨ (kp = true ∧ a = o)) := fun a => by
  rw [hC.has3, h2]
  exact ⟨fun g => g.elim id fun g => absurd g Mk.rch_nil, .inl⟩
 refine ⟨?_, h3, rfl, fun l' hl' => ?_⟩
 ·rw [hl]
  unfold clrOf clearOf
  cases kp with
  | true =>
   have hlo : lostB S m2 (s, 1, o, 0, st, 1, ()) = false := by
    cases e : lostB S m2 (s, 1, o, 0, st, 1, ()) with
    | false => rfl
    | true => exact absurd ((h2 o).mpr (.inr ⟨rfl, rfl⟩)) (lost_iff.mp e).2
   rw [List.filter_cons_of_neg (by rw [hlo]; simp), List.filter_cons_of_neg (by simp)]; rfl
  | false =>
   have hlo : lostB S m2 (s, 1, o, 0, st, 1, ()) = true := lost_iff.mpr ⟨hoo, fun g => by
    rcases (h2 o).mp g with g | g
    ·exact hne g
    ·cases g.1⟩
   rw [List.filter_cons_of_pos (by rw [hlo]; rfl), List.filter_cons_of_neg (by simp)]; rfl
 ·unfold putOf
  rw [List.filter_eq_nil_iff]
  intro a ha
  rw [hl' a ha]
  have := H.get (sf s o st) (by simp) 1 (show ((1 : Nat) : Int) < 5 by decide)
  change Ob.get S s 1 = (0, 0) at this
  rw [this]; simp
end Times
theorem law_gctimes (rate ticks : Int) (asked all : Bool) (hr : 0 ≤ rate ∧ rate < 256) (ht : 0 ≤ ticks ∧ ticks < 256) : Gl.Spec ρ Tryz.prog 9 [.int .u8 rate, .int .u8 ticks, .bool asked, .bool all] [] RB fun r M => r = true ∧ M = [] := by
 refine Gl.Spec.of (fun Q w h => F.gloaminglaw20.GcTimes.calls rate ticks asked all h) fun R => ?_
 unfold F.gloaminglaw20.GcTimes
 refine en_need (by decide) ?_
 rw [wrap64 (n := rate) (by omega) (by omega), wrap64 (n := ticks) (by omega) (by omega), wrap64 (n := 5000 * ticks) (by omega) (by omega), Int.tmod_eq_emod_of_nonneg hr.1, zcIn20, zcOut]
 obtain ⟨r, hre, hr1, hr2⟩ : ∃ r : Int, rate % 3 = r ∧ 0 ≤ r ∧ r ≤ 2 := ⟨_, rfl, by omega, by omega⟩
 rw [hre]
 obtain ⟨k, hke, hk1, hk2⟩ : ∃ k : Int, 5000 * ticks = k ∧ 0 ≤ k ∧ k ≤ 1280000 := ⟨_, rfl, by omega, by omega⟩
 rw [hke]
 clear hre hke
 refine en_call (made60 r 0 (by omega) (by decide)) tks ?_
 rintro _ _ ⟨i, S0, hs0, ro, rfl, rfl, b0, w0, h0, r0, hro⟩
 try simp only [lca, lna]
 change Wl S0 [] [] 0 [] [] at w0
 refine en_brf rfl ?_
 have hf0 : Hn.free hs0 = some 0 := Hn.free_is (by rw [h0.len]; decide) (by rw [r0]) fun t ht => by omega
 have ht0 : Hn.told hs0 0 = 512 := by unfold Hn.told; rw [r0]; rfl
 refine en_call (box60 i b0 w0 h0 (by decide) (by decide) hf0 1 (by decide) (by decide)) tks ?_
 rintro _ _ ⟨o, S1, hs1, rfl, rfl, ho, b1, w1, h1, r1⟩
 try simp only [lca, lna]
 rw [ht0]
 change Bx S1 [] 60 [Times.bx o] at b1
 refine en_drw (en_held [blk i.p (i.cs (RX r [] 0 S1 hs1 ro [] [] 0 0))] tks ?_)
 refine en_nn (en_ldS (k := .ptr) (b := i.p) (off := 0) (x := some ⟨i.r, 0, none⟩) (by rw [fa_mk]) tk rfl ?_)
 try simp only [lca, lna]
 refine en_call (gc_clock i (RX r [] 0 S1 hs1 ro [] [] 0 0)) tks ?_
 rintro x' M ⟨rfl, rfl⟩
 try simp only [lca, lna]
 refine en_chk tks ?_
 obtain ⟨s, S2, e2, hs, b2⟩ := b1.refer (rows := []) (n := 0) (c := 1) (o := o) (q := -1) (t := 0) (show 1 + 1 < 60 by decide) (by decide) (by decide) (by decide) (by decide) (by decide) ⟨Times.bx o, by simp, rfl⟩
 obtain ⟨w2, _, _⟩ := w1.refer 1 o (-1) 0 (by decide) (by decide)
 refine en_call (rfs_refer i.r i.b S1 [] b1.hw [] 0 1 o (-1) 0 (by decide) (by decide)) tks ?_
 rintro _ _ ⟨rfl, rfl⟩
 rw [e2] at w2 ⊢
 try simp only [lca, lna]
 change Wl S2 [] [] 1 [] [] at w2
 change Bx S2 [] 60 [Times.bx o, Times.sf s o 0] at b2
 have hne : o ≠ s := fun e => by
  have := b2.inj (i := 0) (j := 1) rfl rfl e
  cases this
 refine en_nn ?_
 refine en_ld (k := .ptr) (b := i.p) (off := 2) (x := some ⟨i.o, 0, none⟩) (by rw [fa_mk]) tk rfl ?_
 refine en_call (root_place i.o ro (by rw [hro]; rfl) 0 s) tks ?_
 rintro x' M ⟨rfl, rfl⟩
 try simp only [lca, lna]
 rw [if_pos (show ((0 : Int) ≤ 0 ∧ (0 : Int) < 16) ∧ 0 ≤ s from ⟨by decide, by omega⟩)]
 refine en_nn ?_
 refine en_ld (k := .ptr) (b := i.p) (off := 1) (x := some ⟨i.h, 0, none⟩) (by rw [fa_mk]) tk rfl ?_
 have hat' := Hn.drop_is (h1.ok (by decide)) (i := 0) (by decide) (by rw [r1, if_pos rfl]; exact Int.ne_of_gt ho)
 have ht1 : Hn.told hs1 0 = 512 := by unfold Hn.told; rw [r1, r0]; rfl
 rw [ht1] at hat'
 obtain ⟨_, d2⟩ := hat'
 have hd3 := h1.drop (by decide) 512
 have hdz : ∀ t, (Hn.at' (Hn.dropS hs1 512) t).2 = 0 := fun t => by
  rw [d2]
  by_cases e : t = 0
  ·rw [if_pos e]
  ·rw [if_neg e, r1, if_neg e, r0]
 refine en_call (han_drop i.h (h1.ok (by decide)) 512) tks ?_
 rintro x' M ⟨rfl, rfl⟩
 try simp only [lca, lna]
 have hro2 : ∀ a, 0 < a → (a ∈ ro.set (0 : Int).toNat s ↔ a = s) := fun a ha => by
  constructor
  ·intro g
   rcases List.mem_or_eq_of_mem_set g with g | g
   ·rw [hro] at g
    have := List.eq_of_mem_replicate g; omega
   ·exact g
  ·rintro rfl
   exact List.mem_set (by rw [hro]; decide) _
 have hrol : (ro.set (0 : Int).toNat s).length = 16 := by rw [List.length_set, hro]; rfl
 generalize ro.set (0 : Int).toNat s = ro2 at *
 generalize Hn.dropS hs1 512 = hs2 at *
 refine en_call (gc_tick i (RX r [] 1 S2 hs2 ro2 [] [] 0 0) k (by show (0 : Int) < _; decide) (by omega)) tks ?_
 rintro _ _ rfl
 try simp only [lca, lna]
 have hlat : Sf.later 0 k = k := by unfold Sf.later Sf.none; rw [if_neg (by decide)]; split <;> omega
 change Tr _ _ (blk i.p (i.cs (RX r [] 1 S2 hs2 ro2 [] [] (Sf.later 0 k) 0)) :: _) _ _
 rw [hlat]
 refine en_jn (fun _ M => ∃ (S : Spc) (st : Int), M = i.A (RX r [] 1 S hs2 ro2 [] [] k 0) ++ R ∧ Bx S [] 60 [Times.bx o, Times.sf s o st] ∧ Wl S [] [] 1 [] [] ∧ st = if asked then k else 0) ?_ ?_
 ·rintro _ _ ⟨S, st, rfl, b3, w3, hst⟩
  have inv : (RX r [] 1 S hs2 ro2 [] [] k 0).Inv 1 := inv_of w3 hd3 hrol ⟨by show (0 : Int) ≤ k; omega, by show k < _; omega⟩ ⟨by show (0 : Int) ≤ 1; decide, by show (1 : Int) ≤ 1; decide⟩ ⟨Int.le_refl 0, by show (0 : Int) ≤ 1; decide⟩ ⟨by show (0 : Int) ≤ r; omega, by show r < _; omega⟩ rfl
  have hfree : 0 ≤ (RX r [] 1 S hs2 ro2 [] [] k 0).free ∧ (RX r [] 1 S hs2 ro2 [] [] k 0).free ≤ 4000 := by
   have hwl := b3.hw.wf.len
   have hp := b3.pgs
   have hb : ∀ a ∈ Sp.each S, 0 ≤ Sp.wordsAt S a ∧ Sp.wordsAt S a ≤ 1024 := fun a ha => by
    obtain ⟨n, rfl, _, w, g1, g2, g3, _⟩ := Sp.each_find b3.hw.wf ha
    unfold Sp.wordsAt; rw [g1]; dsimp only; omega
   have h1 := sum_le hb
   have h2 : (Sp.each S).length = 2 := by rw [b3.each.length_eq]; rfl
   unfold Rt.free Rt.used
   show 0 ≤ ((S.ws.length - 64 : Nat) : Int) - ((Sp.each S).map (Sp.wordsAt S)).sum ∧ ((S.ws.length - 64 : Nat) : Int) - ((Sp.each S).map (Sp.wordsAt S)).sum ≤ 4000
   omega
  obtain ⟨f, hfe⟩ : ∃ f, (RX r [] 1 S hs2 ro2 [] [] k 0).free = f := ⟨_, rfl⟩
  refine en_call (gc_in i _ (inv.ok (by decide)) all) tks ?_
  rintro _ _ ⟨z1, z2, rfl, m1, m2, rfl⟩
  try simp only [lca, lna]
  rw [hfe] at hfree ⊢
  refine en_nw fun b18 => ?_
  refine en_st (b := b18) (off := 0) rfl tk (by simp) rfl ?_
  refine en_call (gc_collect i _ (inv.ok2 (by decide)) all) tks ?_
  rintro _ _ ⟨y1, y2, s1, s2, s3, s4, l9, m2, m3, hC, rfl, rfl⟩
  have inv2 := inv.after hC
  have hro3 : ∀ a, Mk.obj S a → (a ∈ (RX r [] 1 S hs2 ro2 [] [] k 0).roots ↔ a = s) := fun a hb => by
   obtain ⟨o', ho', e⟩ := b3.bo.obj.mp hb
   have ha := e ▸ b3.bo.pos ho'
   rw [mem_roots hd3.len ha]
   constructor
   ·rintro (⟨t, _, g⟩ | g | ⟨_, g, _⟩ | g)
    ·rw [hdz] at g; omega
    ·exact (hro2 a ha).mp g
    ·cases g
    ·cases g
   ·rintro rfl
    exact .inr (.inl ((hro2 a ha).mpr rfl))
  obtain ⟨kp, hkp⟩ : ∃ kp, kp = (!all && Sf.keep k st f r) := ⟨_, rfl⟩
  have hkp' : kp = (!all && (asked || decide (k ≤ f * r))) := by
   rw [hkp]
   have hfr : 0 ≤ f * r := Int.mul_nonneg hfree.1 hr1
   have hfr2 : f * r ≤ 4000 * 2 := Int.mul_le_mul hfree.2 hr2 hr1 (by decide)
   have hlim : Sf.limit f r = f * r := by
    have n1 : Sf.none f = f := by unfold Sf.none; split <;> omega
    have n2 : Sf.none r = r := by unfold Sf.none; split <;> omega
    unfold Sf.limit
    rw [n1, n2, if_neg (by omega)]
   have n3 : Sf.none k = k := by unfold Sf.none; split <;> omega
   congr 1
   unfold Sf.keep Sf.idle
   rw [hlim, n3]
   cases asked with
   | true =>
    rw [if_pos rfl] at hst
    rw [hst, n3, Int.sub_self, Bool.true_or, decide_eq_true_iff]
    exact hfr
   | false =>
    rw [if_neg (by simp)] at hst
    rw [hst, Bool.false_or, show Sf.none 0 = 0 from rfl, Int.sub_zero, n3]
  obtain ⟨c1, c3, c4, c5⟩ := Times.coll b3.bo hne hro3 hC kp (by rw [hkp]; show _ = (!all && Sf.keep k st (RX r [] 1 S hs2 ro2 [] [] k 0).free r); rw [hfe])
  change clrOf S m2 m3 l9 = _ at c1
  have c5' : putOf S m3 (if kp = true then [] else [s]) = [] := c5 _ (by intro a ha; split at ha; cases ha; simpa using ha)
  change (Rt.after (RX r [] 1 S hs2 ro2 [] [] k 0) (clrOf S m2 m3 l9) (putOf S m3 (clrOf S m2 m3 l9)) (pendOf S m2 []) (Mk.all m3)).Inv _ at inv2
  rw [c1, c4, c5'] at inv2
  rw [c1, c4, c5']
  try simp only [lca, lna]
  have key : ∃ (S' : Spc) (os' : List Ob1) (v : Int), (Sw.sweep (Rf.clear S (if kp = true then [] else [s])).2 (Mk.all m3)) = S' ∧ Bo S' [] os' ∧ (⟨s, ⟨4, 1, 5, false⟩, [v, 0, 0, st, 1]⟩ : Ob1) ∈ os' ∧ v = if kp = true then o else 0 := by
   have hlv : ∀ a, a ∈ Mk.all m3 ↔ (a = s ∨ (kp = true ∧ a = o)) := fun a => by rw [Mk.mem_all, c3]
   cases kp with
   | true =>
    rw [if_pos rfl, if_pos rfl]
    exact ⟨_, _, o, rfl, b3.bo.sweep (Mk.all m3), by rw [List.mem_filter, decide_eq_true_iff, hlv]; exact ⟨by simp, .inl rfl⟩, rfl⟩
   | false =>
    rw [if_neg (by simp), if_neg (by simp)]
    have hR : Qu.isR S s = true := b3.bo.isR.mpr ⟨Times.sf s o st, by simp, rfl, rfl⟩
    have eC : (Rf.clear S [s]).2 = (Ob.put S s 0 0).2 := by unfold Rf.clear; rw [if_pos (by simp [hR])]; rfl
    rw [eC]
    have := (b3.bo.put s 0 0).sweep (Mk.all m3)
    refine ⟨_, _, 0, rfl, this, ?_, rfl⟩
    rw [List.mem_filter, decide_eq_true_iff, hlv]
    refine ⟨List.mem_map.mpr ⟨Times.sf s o st, by simp, ?_⟩, .inl rfl⟩
    unfold Om.up; rw [if_pos rfl]; rfl
  obtain ⟨S', os', v, eS', bo', hms, hv⟩ := key
  have eM : Rt.after (RX r [] 1 S hs2 ro2 [] [] k 0) (if kp = true then [] else [s]) [] [] (Mk.all m3) = RX r [] 1 S' hs2 ro2 [] [] k 1 := by
   show (Rt.mk (Sw.sweep (Rf.clear S (if kp = true then [] else [s])).2 (Mk.all m3)) [] [] 1 hs2 ro2 [] [] 60 r 2 k 1) = _
   rw [eS']
  have hl4 : (Mk.all m3).length < 2 ^ 62 := by
   have h1 := Mk.all_len (m := m3)
   have h2 := hC.c3.len
   have hwl := b3.hw.wf.len
   have hp := b3.pgs
   change m3.length = S.ws.length at h2
   omega
  have hlo : decide (o ∈ Mk.all m3) = kp := by
   rw [decide_eq_decide.mpr (show o ∈ Mk.all m3 ↔ kp = true by
    rw [Mk.mem_all, c3]
    exact ⟨fun g => g.elim (fun g => absurd g hne) fun g => g.1, fun g => .inr ⟨g, rfl⟩⟩)]
   cases kp <;> rfl
  generalize Mk.all m3 = lv at *
  rw [eM]
  try simp only [lca, lna]
  refine en_nw fun b20 => ?_
  refine en_st (b := b20) (off := 0) rfl tk (by simp) rfl ?_
  refine en_drw (en_held [blk i.p (i.cs (RX r [] 1 S' hs2 ro2 [] [] k 1))] tks ?_)
  refine en_nn (en_ldS (k := .ptr) (b := i.p) (off := 0) (x := some ⟨i.r, 0, none⟩) (by rw [fa_mk]) tk rfl ?_)
  try simp only [lca, lna]
  refine en_call (gc_clock i (RX r [] 1 S' hs2 ro2 [] [] k 1)) tks ?_
  rintro x' _ ⟨hx, rfl⟩
  change x' = k at hx
  rw [hx]
  clear hx x'
  try simp only [lca, lna]
  refine en_chk tks ?_
  have er := bo'.referent hms rfl (by show (1 : Int) ≠ 3; decide) k
  change Rf.referent S' s k = ((v, 0), _) at er
  refine en_call (rfs_referent i.r i.b S' [] bo'.hw [] 1 s k) tks ?_
  rintro _ _ ⟨rfl, rfl⟩
  rw [er]
  try simp only [lca, lna]
  have fin : ∀ (j : Bool), j = kp → True := fun _ _ => trivial
  clear fin
  refine en_jnI ?_
  have t1 : ((v == o) == kp) = true := by
   rw [hv]
   cases kp with
   | true => simp
   | false => simp; omega
  have t2 : ((v == 0) == !kp) = true := by
   rw [hv]
   cases kp with
   | true => simp; omega
   | false => simp
  have tail : ∀ j : Bool, j = kp → Tr ρ ρ (blk b20 [.slice s1.a s1.n s1.c, .slice s2.a s2.n s2.c, .slice s3.a s3.n s3.c, .slice s4.a s4.n s4.c] :: SLc s4 1 (lv.map i64) :: R) (call Tryz.prog 15 [] (.one (.l .bool)) fun r33 => ret (.bool r33)) (SP RB (fun r M => r = true ∧ M = []) R) := fun j hj => by
   refine en_call (law_awake20) tks ?_
   rintro x' M ⟨rfl, rfl⟩
   try simp only [lca, lna]
   exact en_rets (x := true) rfl ⟨rfl, rfl⟩ tks ens
  clear tail
  refine en_br (fun ha => ?_) (fun ha => ?_)
  ·have ha : all = false := by simpa using ha
   refine en_br (fun hb => ?_) (fun hb => ?_)
   ·have hb : asked = true := hb
    have hj : kp = true := by rw [hkp', ha, hb]; rfl
    rw [hj] at t1 t2 hlo
    refine en_brt (bne_iff_ne.mpr (Int.ne_of_gt ho)) ?_
    iterate 3
     refine en_call (law_err _) .nil ?_
     rintro x' M ⟨rfl, rfl⟩
     try simp only [lca, lna]
    refine en_brt rfl (en_brt t1 (en_brt t2 ?_))
    refine en_ld (k := .slice) (b := b20) (off := 3) (x := s4) (by rw [fa_mk]) tk rfl ?_
    refine en_call (spec_in s4 lv hl4 o) tks ?_
    rintro x' M ⟨rfl, rfl⟩
    try simp only [lca, lna]
    rw [hlo]
    refine en_brt rfl ?_
    refine en_call (law_awake20) tks ?_
    rintro x' M ⟨rfl, rfl⟩
    try simp only [lca, lna]
    exact en_rets (x := true) rfl ⟨rfl, rfl⟩ tks ens
   ·have hb : asked = false := hb
    refine en_ld (k := .int .i64) (b := b18) (off := 3) (x := f) (by rw [fa_mk]) tk rfl ?_
    have hj : kp = decide (k ≤ f * r) := by rw [hkp', ha, hb]; rfl
    have hfr : 0 ≤ f * r := Int.mul_nonneg hfree.1 hr1
    have hfr2 : f * r ≤ 4000 * 2 := Int.mul_le_mul hfree.2 hr2 hr1 (by decide)
    rw [wrap64 (n := f * r) (by omega) (by omega), ← hj]
    refine en_brt (bne_iff_ne.mpr (Int.ne_of_gt ho)) ?_
    iterate 3
     refine en_call (law_err _) .nil ?_
     rintro x' M ⟨rfl, rfl⟩
     try simp only [lca, lna]
    refine en_brt rfl (en_brt t1 (en_brt t2 ?_))
    refine en_ld (k := .slice) (b := b20) (off := 3) (x := s4) (by rw [fa_mk]) tk rfl ?_
    refine en_call (spec_in s4 lv hl4 o) tks ?_
    rintro x' M ⟨rfl, rfl⟩
    try simp only [lca, lna]
    rw [hlo]
    refine en_brt (by simp) ?_
    refine en_call (law_awake20) tks ?_
    rintro x' M ⟨rfl, rfl⟩
    try simp only [lca, lna]
    exact en_rets (x := true) rfl ⟨rfl, rfl⟩ tks ens
  ·have ha : all = true := by simpa using ha
   have hj : kp = false := by rw [hkp', ha]; rfl
   rw [hj] at t1 t2 hlo
   refine en_brt (bne_iff_ne.mpr (Int.ne_of_gt ho)) ?_
   iterate 3
    refine en_call (law_err _) .nil ?_
    rintro x' M ⟨rfl, rfl⟩
    try simp only [lca, lna]
   refine en_brt rfl (en_brt t1 (en_brt t2 ?_))
   refine en_ld (k := .slice) (b := b20) (off := 3) (x := s4) (by rw [fa_mk]) tk rfl ?_
   refine en_call (spec_in s4 lv hl4 o) tks ?_
   rintro x' M ⟨rfl, rfl⟩
   try simp only [lca, lna]
   rw [hlo]
   refine en_brt rfl ?_
   refine en_call (law_awake20) tks ?_
   rintro x' M ⟨rfl, rfl⟩
   try simp only [lca, lna]
   exact en_rets (x := true) rfl ⟨rfl, rfl⟩ tks ens
 ·intro X hX
  refine en_br (fun hb => ?_) (fun hb => ?_)
  ·have hb : asked = true := hb
   refine en_drw (en_held [blk i.p (i.cs (RX r [] 1 S2 hs2 ro2 [] [] k 0))] tks ?_)
   refine en_nn (en_ldS (k := .ptr) (b := i.p) (off := 0) (x := some ⟨i.r, 0, none⟩) (by rw [fa_mk]) tk rfl ?_)
   try simp only [lca, lna]
   refine en_call (gc_clock i (RX r [] 1 S2 hs2 ro2 [] [] k 0)) tks ?_
   rintro x' _ ⟨hx, rfl⟩
   change x' = k at hx
   rw [hx]
   clear hx x'
   try simp only [lca, lna]
   refine en_chk tks ?_
   have er := b2.bo.referent (o := Times.sf s o 0) (by simp) rfl (by show (1 : Int) ≠ 3; decide) k
   change Rf.referent S2 s k = ((o, 0), if (1 : Int) = 1 ∧ o ≠ 0 then (Ob.put S2 s 3 k).2 else S2) at er
   rw [if_pos ⟨rfl, by omega⟩] at er
   have w3 := w2.referent s k (by omega)
   refine en_call (rfs_referent i.r i.b S2 [] b2.hw [] 1 s k) tks ?_
   rintro _ _ ⟨rfl, rfl⟩
   rw [er] at w3 ⊢
   try simp only [lca, lna]
   obtain ⟨_, b3⟩ := b2.put (i := 1) (o := Times.sf s o 0) rfl (k := 3) (show ((3 : Nat) : Int) < 5 by decide) k
   refine Tr.perm (Takes.perm (M := i.A (RX r [] 1 (Ob.put S2 s 3 k).2 hs2 ro2 [] [] k 0)) tks) (hX _ _ ⟨_, k, rfl, b3, w3, by rw [if_pos hb]⟩)
  ·have hb : asked = false := hb
   exact Tr.perm (Takes.perm (M := i.A (RX r [] 1 S2 hs2 ro2 [] [] k 0)) tks) (hX _ _ ⟨S2, 0, rfl, b2, w2, by rw [hb]; rfl⟩)
end Go.Proofs.YtdplphebjhfliaaGreat
