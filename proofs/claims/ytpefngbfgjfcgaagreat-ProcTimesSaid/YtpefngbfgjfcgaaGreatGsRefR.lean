/- RefP RefQ Bor RefR. -/
import Derived.Test.YtpefngbfgjfcgaaGreatGsRefM
import Derived.Test.YtpefngbfgjfcgaaGreatGsRuns
import Derived.Test.YtpefngbfgjfcgaaGreatGsProc8
import Derived.Test.YtpefngbfgjfcgaaGreatGsClass
set_option linter.unusedSimpArgs false
set_option linter.unusedVariables false
namespace Go.Proofs.YtpefngbfgjfcgaaGreat
open Go Go.Gl
variable {ρ0 ρ : FR} {L L' : List Asn} {Post : Value → List Asn → Prop} {T : Tree}
theorem en_getBm {M M' : List Asn} {s : Slc} {xs : List Bool} {i : Int} {f : Bool → Tree} (t0 : Take L (SLc s 1 (xs.map bv)) L') (t : Take M (SLc s 1 (xs.map bv)) M') (h0 : 0 ≤ i) (h1 : i < xs.length) (h : Tr ρ0 ρ L (f (xs.getD i.toNat false)) Post) :
  Tr ρ0 ρ L (ix s.a s.n i 1 fun a => ldS (Sat ρ M) (.l .bool) a f) Post := by
 refine Tr.vlen t0 fun hn => ?_
 rw [List.length_map] at hn
 refine en_ixSL t0 h0 (by omega) fun a0 ha => ?_
 intro hle w hw
 refine ⟨xs.getD i.toNat false, fun w' hw' => ?_, h hle w hw⟩
 rcases (hw'.perm t.perm).sl with ⟨g1, _⟩ | ⟨b, off, pre, rest, g1, g2, g3, g4, g5, g6⟩
 ·rw [ha] at g1; cases g1
 ·rw [ha] at g1
  injection g1 with g1
  obtain ⟨ty, hb⟩ := g6.cl
  rw [g1, fa_mk, Nat.mul_one]
  refine cell_of hb ?_
  rw [List.getElem?_toArray, ← g2, mid_get (by simp; omega)]
  exact getD_bv (by omega)
theorem objs_in {S : Spc} {cs : List Cls} (hw : HWf S cs) : ∀ o ∈ Ob.objs S, Mk.obj S o.a := fun o ho => by
 obtain ⟨a, ha, rfl⟩ := List.mem_map.mp ho
 obtain ⟨h, hh⟩ := (obj_each hw).mp ha
 unfold Ob.at1 Mk.obj
 rw [hh]
 dsimp only
 rw [hh]; rfl
theorem has_getD {m : List Bool} {a : Int} (h : 0 ≤ a) : Sp.has m a = m.getD a.toNat false := by unfold Sp.has; rw [decide_eq_true h, Bool.true_and]
theorem rm_softly (p : Nat) (S : Spc) (lc : List (Cls × Slc)) (hw : HWf S (csO lc)) (x : In7) (hx : x.Ok) (hst : ∀ r ∈ refsOf S, r.2.2.2.2.1 < 9223372036854775808) (s : Slc) (m : List Bool) (hm : m.length = S.ws.length) :
  Gl.Spec ρ Tryz.prog 53 [.slice s.a s.n s.c, .pointer (some ⟨p, 0, none⟩), inV x] [SLc s 1 (m.map bv), RHp p S lc] R1
  fun r M => M = [SLc s 1 (m.map bv), RHp p S lc] ∧ ((r = 0 ∧ ∀ f ∈ refsOf S, keptB S m x f = false) ∨ ∃ f ∈ refsOf S, keptB S m x f = true ∧ r = f.2.2.1) := by
 refine Spec.of (fun Q w' h => F.gloamingref9.Marks.softly.calls s (some ⟨p, 0, none⟩) (inT x) h) fun R => ?_
 unfold F.gloamingref9.Marks.softly
 try simp only [List.cons_append, List.nil_append]
 refine en_nw fun b1 => ?_
 refine en_call (rh_objects p S lc hw) tks ?_
 rintro r2 M ⟨rfl, hn2⟩
 try simp only [List.cons_append, List.nil_append]
 have hol : (Ob.objs S).length < 2 ^ 14 := by
  have := Sp.each_len hw.wf
  unfold Ob.objs; rw [List.length_map]; omega
 have hrl := ref_len hw
 have hobj : ∀ o ∈ Ob.objs S, 0 ≤ o.a ∧ o.a < m.length := fun o ho => by
  obtain ⟨g1, g2⟩ := Mk.obj_in hw (objs_in hw o ho)
  omega
 have hoin : ∀ a, Mk.obj S a → 0 ≤ a ∧ a < m.length := fun a ha => by
  obtain ⟨g1, g2⟩ := Mk.obj_in hw ha
  omega
 refine Tr.keepObs (s := r2) (os := Ob.objs S) tk fun ρ1 hle1 hobs => ?_
 unfold refsOf at hst ⊢
 generalize Ob.objs S = os at *
 obtain ⟨_, lo, hlo, hro, hqs⟩ := hobs
 have hll : lo.length = os.length := by rw [← hlo]; simp
 refine en_lp (fun n u M => (fun i : Int => M = RHp p S lc :: blk b1 (inC x) :: SLc s 1 (m.map bv) :: R ∧ 0 ≤ i ∧ i ≤ os.length ∧ n = os.length - i.toNat ∧ ∀ f ∈ (os.take i.toNat).filterMap ref1, keptB S m x f = false) u.1) os.length ?_ ?_
 ·exact ⟨rfl, by simp, by dsimp only; omega, by simp, by simp⟩
 ·rintro n ⟨(i : Int), ⟨⟩⟩ M ⟨rfl, i0, i1, rfl, hno⟩ X hX
  dsimp only at i0 i1 hno hX ⊢
  refine en_br (fun h => ?_) (fun h => ?_)
  ·replace h : i < (r2.n : Int) := of_decide_eq_true h
   have hi : i.toNat < os.length := by omega
   have hxx : lo[i.toNat]? = some lo[i.toNat] := List.getElem?_eq_getElem (by omega)
   have hxo : os[i.toNat]? = some lo[i.toNat].1 := by
    have := congrArg (fun l : List Ob1 => l[i.toNat]?) hlo
    rw [List.getElem?_map, hxx] at this
    exact this.symm
   have ht : (os.take (i + 1).toNat).filterMap ref1 = (os.take i.toNat).filterMap ref1 ++ [lo[i.toNat].1].filterMap ref1 := by
    rw [show (i + 1).toNat = i.toNat + 1 by omega, List.take_add_one, hxo, List.filterMap_append]; rfl
   obtain ⟨hq, hqn⟩ := hqs _ (List.mem_of_getElem? hxx)
   have hmo := List.mem_of_getElem? hxo
   have h5 := hrl _ hmo
   have hoa := hobj _ hmo
   generalize lo[i.toNat] = y at *
   obtain ⟨⟨a, ⟨k, c, n, f⟩, ws⟩, q⟩ := y
   dsimp only at hq hqn h5 ht hoa hmo
   refine en_ixRo hro i0 h fun a0 ha => ?_
   refine en_ldRg (x := (a, k, c, n, f, q, ())) ha hro (j := i.toNat * 6) (by rintro b o rfl; simp [fa_mk]) (fun e v he => ?_) ?_
   ·have hlt : e < 6 := (List.getElem?_eq_some_iff.1 he).1
    rw [Nat.add_zero, flat_get (g := obCs) (m := 6) (fun _ => rfl) hxx hlt]; exact he
   dsimp only
   refine en_nw fun b7 => ?_
   rw [zcO]
   refine en_st (b := b7) (off := 0) rfl tk (by simp) rfl ?_
   refine Tr.take (A := blk b7 [.int .i64 a, .int .i64 k, .int .i64 c, .int .i64 n, .bool f, .slice q.a q.n q.c]) tk ?_
   rw [wrap64 (n := i + 1) (by omega) (by omega)]
   have skip : (∀ f', ref1 ⟨a, ⟨k, c, n, f⟩, ws⟩ = some f' → keptB S m x f' = false) → Tr ρ ρ1 (RHp p S lc :: blk b1 (inC x) :: SLc s 1 (m.map bv) :: R) (X (i + 1, ())) (SP R1 (fun r M => M = [SLc s 1 (m.map bv), RHp p S lc] ∧ ((r = 0 ∧ ∀ f ∈ os.filterMap ref1, keptB S m x f = false) ∨ ∃ f ∈ os.filterMap ref1, keptB S m x f = true ∧ r = f.2.2.1)) R) := fun hs => by
    refine hX (os.length - (i + 1).toNat) _ _ (by omega) ⟨rfl, by dsimp only; omega, by dsimp only; omega, rfl, fun f' hf' => ?_⟩
    dsimp only at hf'
    rw [ht] at hf'
    rcases List.mem_append.mp hf' with hf' | hf'
    ·exact hno f' hf'
    ·obtain ⟨o, ho, he⟩ := List.mem_filterMap.mp hf'
     rw [List.mem_singleton] at ho
     subst ho
     exact hs f' he
   refine en_ld (k := .int .i64) (b := b7) (off := 0) (x := a) (by rw [fa_mk]) tk rfl ?_
   refine en_getB (s := s) (xs := m) tk hoa.1 hoa.2 ?_
   refine en_br (fun h1 => ?_) (fun h1 => ?_)
   ·refine Tr.drop .here (skip fun f' hf' => ?_)
    unfold ref1 at hf'
    split at hf'
    ·injection hf' with hf'
     subst hf'
     unfold keptB
     dsimp only
     rw [has_getD hoa.1]
     have : m.getD a.toNat false = false := by simpa using h1
     rw [this]; simp
    ·cases hf'
   ·have h1 : m.getD a.toNat false = true := by simpa using h1
    refine en_ld (k := .int .i64) (b := b7) (off := 1) (x := k) (by rw [fa_mk, fa_mk]) tk rfl ?_
    refine en_br (fun h2 => ?_) (fun h2 => ?_)
    ·have h2 : k ≠ 4 := by simpa using h2
     exact Tr.drop .here (skip fun f' hf' => by simp [ref1, h2] at hf')
    ·have h2 : k = 4 := by simpa using h2
     have h5 := h5 h2
     have hr1 : ref1 ⟨a, ⟨k, c, n, f⟩, ws⟩ = some (a, c, ws.getD 0 0, ws.getD 1 0, ws.getD 3 0, ws.getD 4 0, ()) := by simp [ref1, h2]
     have hin : ((a, c, ws.getD 0 0, ws.getD 1 0, ws.getD 3 0, ws.getD 4 0, ()) : Rf6) ∈ os.filterMap ref1 := List.mem_filterMap.mpr ⟨_, hmo, hr1⟩
     have hstt := hst _ hin
     dsimp only at hstt
     rw [hr1] at skip
     replace skip := fun hs => skip (fun f' hf' => by injection hf' with hf'; rw [← hf']; exact hs)
     refine en_ld (k := .int .i64) (b := b7) (off := 2) (x := c) (by rw [fa_mk, fa_mk]) tk rfl ?_
     refine en_br (fun h3 => ?_) (fun h3 => ?_)
     ·have h3 : c ≠ 1 := by simpa using h3
      exact Tr.drop .here (skip (by unfold keptB; dsimp only; rw [decide_eq_false h3]; rfl))
     ·have h3 : c = 1 := by simpa using h3
      refine en_ld (k := .bool) (b := b1) (off := 5) (x := x.all) (by rw [fa_mk]) tk rfl ?_
      refine en_br (fun h4 => ?_) (fun h4 => ?_)
      ·exact Tr.drop .here (skip (by unfold keptB; dsimp only; rw [h4]; simp))
      ·refine en_ld (k := .slice) (b := b7) (off := 5) (x := q) (by rw [fa_mk]) tk rfl ?_
       refine en_getRo hq (by omega) (by omega) ?_
       rw [show (0 : Int).toNat = 0 from rfl]
       generalize hw0 : ws.getD 0 0 = w0 at *
       refine en_drw (en_held [blk b1 (inC x), blk b7 [.int .i64 a, .int .i64 k, .int .i64 c, .int .i64 n, .bool f, .slice q.a q.n q.c], SLc s 1 (m.map bv)] tks ?_)
       refine en_call (rh_head p S lc hw w0) tks ?_
       rintro x' M ⟨rfl, rfl⟩
       try simp only [List.cons_append, List.nil_append]
       refine en_chk tks (en_cut [blk b1 (inC x), blk b7 [.int .i64 a, .int .i64 k, .int .i64 c, .int .i64 n, .bool f, .slice q.a q.n q.c], SLc s 1 (m.map bv)] tks (fun w h => h) ?_)
       cases hh : Ob.head S w0 with
       | none =>
        refine en_brf rfl ?_
        exact Tr.drop (.skip .here) (skip (by unfold keptB lostB; dsimp only; rw [hh]; simp))
       | some hd =>
        have how := hoin w0 (by unfold Mk.obj; rw [hh]; rfl)
        refine en_brt rfl ?_
        refine en_getBm (s := s) (xs := m) tk tk how.1 how.2 ?_
        refine en_br (fun h6 => ?_) (fun h6 => ?_)
        ·have h6 : m.getD w0.toNat false = false := by simpa using h6
         refine en_ldS (k := .int .i64) (b := b1) (off := 2) (x := x.clock) (by rw [fa_mk]) tk rfl ?_
         refine en_ldS (k := .slice) (b := b7) (off := 5) (x := q) (by rw [fa_mk]) tk rfl ?_
         refine en_getRoS hq (by omega) (by omega) ?_
         refine en_ldS (k := .int .i64) (b := b1) (off := 3) (x := x.free) (by rw [fa_mk]) tk rfl ?_
         refine en_ldS (k := .int .i64) (b := b1) (off := 4) (x := x.rate) (by rw [fa_mk]) tk rfl ?_
         rw [show (3 : Int).toNat = 3 from rfl]
         refine en_call (ref_keep x.clock (ws.getD 3 0) x.free x.rate hx.c hstt hx.f hx.r) tks ?_
         rintro x' M ⟨rfl, rfl⟩
         try simp only [List.cons_append, List.nil_append]
         have ek : keptB S m x (a, c, w0, ws.getD 1 0, ws.getD 3 0, ws.getD 4 0, ()) = Sf.keep x.clock (ws.getD 3 0) x.free x.rate := by
          unfold keptB lostB
          dsimp only
          rw [decide_eq_true h3, has_getD hoa.1, h1, has_getD how.1, h6, hh, h4]
          simp
         refine en_br (fun h7 => ?_) (fun h7 => ?_)
         ·exact en_rets (x := w0) rfl ⟨rfl, .inr ⟨_, hin, by rw [ek, h7], rfl⟩⟩ tks ens
         ·exact Tr.drop (.skip .here) (skip (by rw [ek, h7]))
        ·have h6 : m.getD w0.toNat false = true := by simpa using h6
         exact Tr.drop (.skip .here) (skip (by unfold keptB lostB; dsimp only; rw [has_getD how.1, h6]; simp))
  ·replace h : ¬ i < (r2.n : Int) := of_decide_eq_false h
   rw [List.take_of_length_le (by omega)] at hno
   exact en_rets (x := (0 : Int)) rfl ⟨rfl, .inl ⟨rfl, hno⟩⟩ tks ens
end Go.Proofs.YtpefngbfgjfcgaaGreat
namespace Go.Proofs.YtpefngbfgjfcgaaGreat
open Go Go.Gl
variable {ρ0 ρ : FR} {L L' : List Asn} {Post : Value → List Asn → Prop} {T : Tree}
theorem _root_.Go.Gl.RoS.part {s : Slc} {m : Nat} {xs : List Value} (h : RoS ρ s m xs) {l e : Nat} (hle : l ≤ e) (he : e ≤ s.n) (hc : s.n ≤ s.c) : RoS ρ ⟨if s.c = l then s.a else s.a.map fun b => fa b (l * m), e - l, s.c - l⟩ m ((xs.drop (l * m)).take ((e - l) * m)) := by
 obtain ⟨h1, h2⟩ := h
 have h3 : l * m ≤ e * m := Nat.mul_le_mul_right _ hle
 have h4 : e * m ≤ s.n * m := Nat.mul_le_mul_right _ he
 have h5 : (e - l) * m = e * m - l * m := Nat.sub_mul _ _ _
 refine ⟨by rw [List.length_take, List.length_drop, h1, h5]; omega, ?_⟩
 by_cases hn : e = l
 ·left; dsimp only; omega
 ·rcases h2 with h2 | ⟨b, off, cs, ty, fr, g1, g2, g3⟩
  ·omega
  ·right
   refine ⟨b, off + l * m, cs, ty, fr, ?_, g2, fun i hi => ?_⟩
   ·dsimp only; rw [if_neg (by omega), g1, Option.map_some, fa_mk]
   ·rw [List.length_take, List.length_drop] at hi
    rw [List.getElem?_take_of_lt (by omega), List.getElem?_drop, ← g3 (l * m + i) (by omega), Nat.add_assoc]
theorem ins_srt {lr : List Rf6} {r : Rf6} {k : Nat} (h : lr.Pairwise fun a b => key6 a ≤ key6 b) (h1 : ∀ y ∈ lr.take k, key6 y ≤ key6 r) (h2 : k < lr.length → key6 r ≤ key6 (lr.getD k d6)) : (lr.take k ++ r :: lr.drop k).Pairwise fun a b => key6 a ≤ key6 b := by
 have h' := h
 rw [← List.take_append_drop k lr, List.pairwise_append] at h'
 obtain ⟨g1, g2, g3⟩ := h'
 rw [List.pairwise_append, List.pairwise_cons]
 have h4 : ∀ y ∈ lr.drop k, key6 r ≤ key6 y := fun y hy => by
  rcases Nat.lt_or_ge k lr.length with c | c
  ·rw [drop_getD d6 c] at hy g2
   rw [List.pairwise_cons] at g2
   rcases List.mem_cons.mp hy with rfl | hy
   ·exact h2 c
   ·exact Int.le_trans (h2 c) (g2.1 y hy)
  ·rw [List.drop_eq_nil_of_le c] at hy; cases hy
 refine ⟨g1, ⟨h4, g2⟩, fun a ha b hb => ?_⟩
 rcases List.mem_cons.mp hb with rfl | hb
 ·exact h1 a ha
 ·exact g3 a ha b hb
theorem ins_perm {lr : List Rf6} {r : Rf6} {k : Nat} : (lr.take k ++ r :: lr.drop k).Perm (lr ++ [r]) := by
 refine List.perm_middle.trans ?_
 rw [List.take_append_drop]
 exact (List.perm_append_singleton _ _).symm
def serB (S : Spc) (m : List Bool) (f t : Int) (r : Rf6) : Bool := decide (f ≤ r.2.1) && (decide (r.2.1 ≤ t) && lostB S m r)
theorem rm_bySerial (p : Nat) (S : Spc) (lc : List (Cls × Slc)) (hw : HWf S (csO lc)) (s : Slc) (m : List Bool) (hm : m.length = S.ws.length) (fr tt : Int) :
  Gl.Spec ρ Tryz.prog 54 [.slice s.a s.n s.c, .pointer (some ⟨p, 0, none⟩), i64 fr, i64 tt] [SLc s 1 (m.map bv), RHp p S lc] RS
  fun r M => ∃ lr : List Rf6, M = [SLc r 1 ((lr.map (·.1)).map i64), SLc s 1 (m.map bv), RHp p S lc] ∧ lr.Perm ((refsOf S).filter (serB S m fr tt)) ∧ lr.Pairwise fun a b => key6 a ≤ key6 b := by
 refine Spec.of (fun Q w' h => F.gloamingref9.Marks.bySerial.calls s (some ⟨p, 0, none⟩) fr tt h) fun R => ?_
 unfold F.gloamingref9.Marks.bySerial
 try simp only [List.cons_append, List.nil_append]
 refine en_call (rh_objects p S lc hw) tks ?_
 rintro r1 M ⟨rfl, hn1⟩
 try simp only [List.cons_append, List.nil_append]
 have hol : (Ob.objs S).length < 2 ^ 14 := by
  have := Sp.each_len hw.wf
  unfold Ob.objs; rw [List.length_map]; omega
 have hrl := ref_len hw
 have hoin : ∀ a, Mk.obj S a → 0 ≤ a ∧ a < m.length := fun a ha => by
  obtain ⟨g1, g2⟩ := Mk.obj_in hw ha
  omega
 have hkey : ∀ f ∈ refsOf S, (Ob.get S f.1 4).1 = key6 f := fun f hf => by
  obtain ⟨h, _, _, e⟩ := (mem_refsOf hw).mp hf
  rw [e]; rfl
 refine Tr.keepObs (s := r1) (os := Ob.objs S) tk fun ρ1 hle1 hobs => ?_
 unfold refsOf at hkey ⊢
 generalize Ob.objs S = os at *
 obtain ⟨_, lo, hlo, hro, hqs⟩ := hobs
 have hll : lo.length = os.length := by rw [← hlo]; simp
 refine Tr.nilSL 1 ?_
 refine en_lp (fun n u M => (fun (t : Slc) (i : Int) => ∃ lr : List Rf6, M = SLc t 1 ((lr.map (·.1)).map i64) :: RHp p S lc :: SLc s 1 (m.map bv) :: R ∧ 0 ≤ i ∧ i ≤ os.length ∧ n = os.length - i.toNat ∧ lr.Perm (((os.take i.toNat).filterMap ref1).filter (serB S m fr tt)) ∧ lr.Pairwise fun a b => key6 a ≤ key6 b) u.1 u.2.1) os.length ?_ ?_
 ·exact ⟨[], rfl, by simp, by dsimp only; omega, by simp, by simp, .nil⟩
 ·rintro n ⟨(t : Slc), (i : Int), ⟨⟩⟩ M ⟨lr, rfl, i0, i1, rfl, hper, hsrt⟩ X hX
  dsimp only at i0 i1 hper hX ⊢
  refine en_br (fun h => ?_) (fun h => ?_)
  ·replace h : i < (r1.n : Int) := of_decide_eq_true h
   have hi : i.toNat < os.length := by omega
   have hxx : lo[i.toNat]? = some lo[i.toNat] := List.getElem?_eq_getElem (by omega)
   have hxo : os[i.toNat]? = some lo[i.toNat].1 := by
    have := congrArg (fun l : List Ob1 => l[i.toNat]?) hlo
    rw [List.getElem?_map, hxx] at this
    exact this.symm
   have ht : (os.take (i + 1).toNat).filterMap ref1 = (os.take i.toNat).filterMap ref1 ++ [lo[i.toNat].1].filterMap ref1 := by
    rw [show (i + 1).toNat = i.toNat + 1 by omega, List.take_add_one, hxo, List.filterMap_append]; rfl
   have hlrl : lr.length ≤ os.length := by
    rw [hper.length_eq]
    refine Nat.le_trans (List.length_filter_le _ _) (Nat.le_trans (List.length_filterMap_le _ _) ?_)
    rw [List.length_take]; omega
   have hlrm : ∀ y ∈ lr, y ∈ os.filterMap ref1 := fun y hy => by
    have := hper.mem_iff.mp hy
    have := (List.mem_filter.mp this).1
    obtain ⟨o, ho, e⟩ := List.mem_filterMap.mp this
    exact List.mem_filterMap.mpr ⟨o, List.mem_of_mem_take ho, e⟩
   obtain ⟨hq, hqn⟩ := hqs _ (List.mem_of_getElem? hxx)
   have hmo := List.mem_of_getElem? hxo
   have h5 := hrl _ hmo
   generalize lo[i.toNat] = y at *
   obtain ⟨⟨a, ⟨k, c, n, f⟩, ws⟩, q⟩ := y
   dsimp only at hq hqn h5 ht hmo
   refine en_ixRo hro i0 h fun a0 ha => ?_
   refine en_ldRg (x := (a, k, c, n, f, q, ())) ha hro (j := i.toNat * 6) (by rintro b o rfl; simp [fa_mk]) (fun e v he => ?_) ?_
   ·have hlt : e < 6 := (List.getElem?_eq_some_iff.1 he).1
    rw [Nat.add_zero, flat_get (g := obCs) (m := 6) (fun _ => rfl) hxx hlt]; exact he
   dsimp only
   refine en_nw fun b6 => ?_
   rw [zcO]
   refine en_st (b := b6) (off := 0) rfl tk (by simp) rfl ?_
   refine Tr.take (A := blk b6 [.int .i64 a, .int .i64 k, .int .i64 c, .int .i64 n, .bool f, .slice q.a q.n q.c]) tk ?_
   rw [wrap64 (n := i + 1) (by omega) (by omega)]
   have go : ∀ (t' : Slc) (lr' : List Rf6), lr'.Perm (((os.take (i + 1).toNat).filterMap ref1).filter (serB S m fr tt)) → (lr'.Pairwise fun a b => key6 a ≤ key6 b) → Tr ρ ρ1 (SLc t' 1 ((lr'.map (·.1)).map i64) :: RHp p S lc :: SLc s 1 (m.map bv) :: R) (X (t', i + 1, ())) (SP RS (fun r M => ∃ lr : List Rf6, M = [SLc r 1 ((lr.map (·.1)).map i64), SLc s 1 (m.map bv), RHp p S lc] ∧ lr.Perm ((os.filterMap ref1).filter (serB S m fr tt)) ∧ lr.Pairwise fun a b => key6 a ≤ key6 b) R) := fun t' lr' h1 h2 =>
    hX (os.length - (i + 1).toNat) _ _ (by omega) ⟨lr', rfl, by dsimp only; omega, by dsimp only; omega, rfl, h1, h2⟩
   have skip : (∀ f', ref1 ⟨a, ⟨k, c, n, f⟩, ws⟩ = some f' → serB S m fr tt f' = false) → Tr ρ ρ1 (SLc t 1 ((lr.map (·.1)).map i64) :: RHp p S lc :: SLc s 1 (m.map bv) :: R) (X (t, i + 1, ())) (SP RS (fun r M => ∃ lr : List Rf6, M = [SLc r 1 ((lr.map (·.1)).map i64), SLc s 1 (m.map bv), RHp p S lc] ∧ lr.Perm ((os.filterMap ref1).filter (serB S m fr tt)) ∧ lr.Pairwise fun a b => key6 a ≤ key6 b) R) := fun hs => by
    refine go t lr ?_ hsrt
    rw [ht, List.filter_append]
    have : ([(⟨a, ⟨k, c, n, f⟩, ws⟩ : Ob1)].filterMap ref1).filter (serB S m fr tt) = [] := by
     rw [List.filter_eq_nil_iff]
     intro f' hf'
     obtain ⟨o, ho, he⟩ := List.mem_filterMap.mp hf'
     rw [List.mem_singleton] at ho
     subst ho
     rw [hs f' he]; simp
    rw [this, List.append_nil]; exact hper
   refine en_ld (k := .int .i64) (b := b6) (off := 1) (x := k) (by rw [fa_mk, fa_mk]) tk rfl ?_
   refine en_br (fun h2 => ?_) (fun h2 => ?_)
   ·have h2 : k ≠ 4 := by simpa using h2
    exact Tr.drop .here (skip fun f' hf' => by simp [ref1, h2] at hf')
   have h2 : k = 4 := by simpa using h2
   have h5 := h5 h2
   have hr1 : ref1 ⟨a, ⟨k, c, n, f⟩, ws⟩ = some (a, c, ws.getD 0 0, ws.getD 1 0, ws.getD 3 0, ws.getD 4 0, ()) := by simp [ref1, h2]
   have hin : ((a, c, ws.getD 0 0, ws.getD 1 0, ws.getD 3 0, ws.getD 4 0, ()) : Rf6) ∈ os.filterMap ref1 := List.mem_filterMap.mpr ⟨_, hmo, hr1⟩
   rw [hr1] at skip
   replace skip := fun hs => skip (fun f' hf' => by injection hf' with hf'; rw [← hf']; exact hs)
   refine en_ld (k := .int .i64) (b := b6) (off := 2) (x := c) (by rw [fa_mk, fa_mk]) tk rfl ?_
   refine en_br (fun h3 => ?_) (fun h3 => ?_)
   ·have h3 : c < fr := of_decide_eq_true h3
    exact Tr.drop .here (skip (by unfold serB; dsimp only; rw [decide_eq_false (by omega)]; rfl))
   have h3 : ¬ c < fr := of_decide_eq_false h3
   refine en_ld (k := .int .i64) (b := b6) (off := 2) (x := c) (by rw [fa_mk, fa_mk]) tk rfl ?_
   refine en_br (fun h4 => ?_) (fun h4 => ?_)
   ·have h4 : c > tt := of_decide_eq_true h4
    exact Tr.drop .here (skip (by unfold serB; dsimp only; rw [decide_eq_false (p := c ≤ tt) (by omega)]; simp))
   have h4 : ¬ c > tt := of_decide_eq_false h4
   refine en_ld (k := .slice) (b := b6) (off := 5) (x := q) (by rw [fa_mk]) tk rfl ?_
   refine en_getRo hq (by omega) (by omega) ?_
   rw [show (0 : Int).toNat = 0 from rfl]
   generalize hw0 : ws.getD 0 0 = w0 at *
   refine en_call (rh_head p S lc hw w0) tks ?_
   rintro x' M ⟨rfl, rfl⟩
   try simp only [List.cons_append, List.nil_append]
   cases hh : Ob.head S w0 with
   | none =>
    refine en_brt rfl ?_
    exact Tr.drop (.skip .here) (Tr.take (A := SLc t 1 ((lr.map (·.1)).map i64)) tk (skip (by unfold serB lostB; dsimp only; rw [hh]; simp)))
   | some hd =>
   have how := hoin w0 (by unfold Mk.obj; rw [hh]; rfl)
   refine en_brf rfl ?_
   refine en_getB (s := s) (xs := m) tk how.1 how.2 ?_
   refine en_br (fun h6 => ?_) (fun h6 => ?_)
   ·exact Tr.drop (.skip .here) (Tr.take (A := SLc t 1 ((lr.map (·.1)).map i64)) tk (skip (by unfold serB lostB; dsimp only; rw [has_getD how.1, h6]; simp)))
   have eser : serB S m fr tt (a, c, w0, ws.getD 1 0, ws.getD 3 0, ws.getD 4 0, ()) = true := by
    unfold serB lostB
    dsimp only
    rw [has_getD how.1, h6, hh, decide_eq_true (p := fr ≤ c) (by omega), decide_eq_true (p := c ≤ tt) (by omega)]
    rfl
   have hkr : key6 (a, c, w0, ws.getD 1 0, ws.getD 3 0, ws.getD 4 0, ()) = ws.getD 4 0 := rfl
   have har : a = ((a, c, w0, ws.getD 1 0, ws.getD 3 0, ws.getD 4 0, ()) : Rf6).1 := rfl
   have hnew : (((os.take (i + 1).toNat).filterMap ref1).filter (serB S m fr tt)) = ((os.take i.toNat).filterMap ref1).filter (serB S m fr tt) ++ [(a, c, w0, ws.getD 1 0, ws.getD 3 0, ws.getD 4 0, ())] := by
    rw [ht, List.filter_append]
    congr 1
    rw [show [(⟨a, ⟨k, c, n, f⟩, ws⟩ : Ob1)].filterMap ref1 = [(a, c, w0, ws.getD 1 0, ws.getD 3 0, ws.getD 4 0, ())] by rw [List.filterMap_cons, hr1]; rfl, List.filter_cons_of_pos eser]
    rfl
   rw [hnew] at go
   clear skip hnew hr1
   generalize ((a, c, w0, ws.getD 1 0, ws.getD 3 0, ws.getD 4 0, ()) : Rf6) = r at *
   refine Tr.sl_len (s := t) tk fun htn htc => ?_
   rw [List.length_map, List.length_map, Nat.mul_one] at htn
   refine Tr.keepSL (s := t) tk fun ρ2 hle2 hrt => ?_
   have hq2 := hq.le hle2
   refine en_jn (fun (u : LTs [.int .i64]) M => ∃ kk : Nat, u.1 = (kk : Int) ∧ kk ≤ lr.length ∧ (∀ y ∈ lr.take kk, key6 y ≤ key6 r) ∧ (kk < lr.length → key6 r ≤ key6 (lr.getD kk d6)) ∧ M = blk b6 [.int .i64 a, .int .i64 k, .int .i64 c, .int .i64 n, .bool f, .slice q.a q.n q.c] :: RHp p S lc :: SLc s 1 (m.map bv) :: R) ?_ ?_
   ·rintro ⟨(j : Int), ⟨⟩⟩ M ⟨kk, hj, hkk, hle, hgt, rfl⟩
    dsimp only at hj
    subst hj
    refine en_drw (en_held [blk b6 [.int .i64 a, .int .i64 k, .int .i64 c, .int .i64 n, .bool f, .slice q.a q.n q.c]] tks ?_)
    refine en_slc (by omega) (by first | omega | (dsimp only; omega)) (by first | omega | (dsimp only; omega)) ?_
    refine en_ldS (k := .int .i64) (b := b6) (off := 0) (x := a) (by rw [fa_mk]) tk rfl ?_
    refine en_slc (by first | omega | (dsimp only; omega)) (by first | omega | (dsimp only; omega)) (by first | omega | (dsimp only; omega)) ?_
    have p1 := hrt.part (l := (0 : Int).toNat) (e := ((kk : Nat) : Int).toNat) (by simp) (by rw [Int.toNat_natCast]; omega) htc
    have p2 := hrt.part (l := ((kk : Nat) : Int).toNat) (e := ((t.n : Nat) : Int).toNat) (by rw [Int.toNat_natCast, Int.toNat_natCast]; omega) (by rw [Int.toNat_natCast]; omega) htc
    have e1 : ((((lr.map (·.1)).map i64).drop ((0 : Int).toNat * 1)).take ((((kk : Nat) : Int).toNat - (0 : Int).toNat) * 1)) = ((lr.take kk).map (·.1)).map i64 := by
     rw [Int.toNat_natCast, List.map_take, List.map_take]; simp
    have e2 : ((((lr.map (·.1)).map i64).drop (((kk : Nat) : Int).toNat * 1)).take ((((t.n : Nat) : Int).toNat - ((kk : Nat) : Int).toNat) * 1)) = ((lr.drop kk).map (·.1)).map i64 := by
     rw [Int.toNat_natCast, Int.toNat_natCast, List.map_drop, List.map_drop, Nat.mul_one, Nat.mul_one, List.take_of_length_le (by simp; omega)]
    rw [e1] at p1
    rw [e2] at p2
    clear e1 e2
    have hl1 : ((lr.take kk).map (·.1)).length ≤ lr.length := by rw [List.length_map, List.length_take]; omega
    have hl2 : ((lr.drop kk).map (·.1)).length ≤ lr.length := by rw [List.length_map, List.length_drop]; omega
    have fin : ∀ (r' : Slc), Tr ρ ρ2 (SLc r' 1 (((lr.take kk).map (·.1) ++ [a] ++ (lr.drop kk).map (·.1)).map i64) :: RHp p S lc :: SLc s 1 (m.map bv) :: R) (X (r', i + 1, ())) (SP RS (fun r M => ∃ lr : List Rf6, M = [SLc r 1 ((lr.map (·.1)).map i64), SLc s 1 (m.map bv), RHp p S lc] ∧ lr.Perm ((os.filterMap ref1).filter (serB S m fr tt)) ∧ lr.Pairwise fun a b => key6 a ≤ key6 b) R) := fun r' => by
     refine tr_weak2 hle1 hle2 ?_
     have e : (lr.take kk).map (·.1) ++ [a] ++ (lr.drop kk).map (·.1) = (lr.take kk ++ r :: lr.drop kk).map (·.1) := by rw [har]; simp
     rw [e]
     exact go r' _ (ins_perm.trans (hper.append_right _)) (ins_srt hsrt hle hgt)
    refine en_both ?_ ?_
    ·refine en_nw fun b22 => ?_
     refine Tr.imp (A := blk b22 []) (A' := SLc ⟨some ⟨b22, 0, none⟩, 0, 0⟩ 1 (([] : List Int).map i64)) tk (SLc.emp b22 1) ?_
     refine en_chk tks (en_both ?_ ?_)
     ·refine en_appS (s := ⟨some ⟨b22, 0, none⟩, 0, 0⟩) (xs := []) (ys := (lr.take kk).map (·.1)) appInt tk (Rd.ro p1) (by rw [List.length_nil]; omega) fun r23 h23 => ?_
      rw [List.nil_append]
      refine en_chk tks ?_
      refine en_appI (s := r23) (xs := (lr.take kk).map (·.1)) appInt tk (by omega) fun r25 h25 => ?_
      refine en_appS (s := r25) (xs := (lr.take kk).map (·.1) ++ [a]) (ys := (lr.drop kk).map (·.1)) appInt tk (Rd.ro p2) (by rw [List.length_append, List.length_singleton]; omega) fun r26 h26 => ?_
      refine Tr.drop (A := blk b6 [.int .i64 a, .int .i64 k, .int .i64 c, .int .i64 n, .bool f, .slice q.a q.n q.c]) tk ?_
      exact fin r26
     ·refine en_nw fun b27 => ?_
      refine en_appS (s := ⟨some ⟨b22, 0, none⟩, 0, 0⟩) (xs := []) (ys := (lr.take kk).map (·.1)) appInt tk (Rd.ro p1) (by rw [List.length_nil]; omega) fun r23 h23 => ?_
      rw [List.nil_append]
      refine en_appS (s := r23) (x := ⟨some ⟨b27, 0, none⟩, 1, 1⟩) (xs := (lr.take kk).map (·.1)) (ys := [a]) appInt tk (Rd.cl (b := b27) tk rfl rfl) (by rw [List.length_singleton]; omega) fun r25 h25 => ?_
      refine en_appS (s := r25) (xs := (lr.take kk).map (·.1) ++ [a]) (ys := (lr.drop kk).map (·.1)) appInt tk (Rd.ro p2) (by rw [List.length_append, List.length_singleton]; omega) fun r26 h26 => ?_
      refine Tr.drop (A := blk b27 [.int .i64 a]) tk ?_
      refine Tr.drop (A := blk b6 [.int .i64 a, .int .i64 k, .int .i64 c, .int .i64 n, .bool f, .slice q.a q.n q.c]) tk ?_
      exact fin r26
    ·refine en_nw fun b27 => en_nw fun b22 => ?_
     refine Tr.imp (A := blk b22 []) (A' := SLc ⟨some ⟨b22, 0, none⟩, 0, 0⟩ 1 (([] : List Int).map i64)) tk (SLc.emp b22 1) ?_
     refine en_appS (s := ⟨some ⟨b22, 0, none⟩, 0, 0⟩) (xs := []) (ys := (lr.take kk).map (·.1)) appInt tk (Rd.ro p1) (by rw [List.length_nil]; omega) fun r23 h23 => ?_
     rw [List.nil_append]
     refine en_appS (s := r23) (x := ⟨some ⟨b27, 0, none⟩, 1, 1⟩) (xs := (lr.take kk).map (·.1)) (ys := [a]) appInt tk (Rd.cl (b := b27) tk rfl rfl) (by rw [List.length_singleton]; omega) fun r25 h25 => ?_
     refine en_appS (s := r25) (xs := (lr.take kk).map (·.1) ++ [a]) (ys := (lr.drop kk).map (·.1)) appInt tk (Rd.ro p2) (by rw [List.length_append, List.length_singleton]; omega) fun r26 h26 => ?_
     refine Tr.drop (A := blk b27 [.int .i64 a]) tk ?_
     refine Tr.drop (A := blk b6 [.int .i64 a, .int .i64 k, .int .i64 c, .int .i64 n, .bool f, .slice q.a q.n q.c]) tk ?_
     exact fin r26
   ·intro J hJ
    clear hX go
    refine Tr.take (A := RHp p S lc) tk (Tr.take (A := blk b6 [.int .i64 a, .int .i64 k, .int .i64 c, .int .i64 n, .bool f, .slice q.a q.n q.c]) tk ?_)
    refine en_lp (fun n' u M => (fun j : Int => M = blk b6 [.int .i64 a, .int .i64 k, .int .i64 c, .int .i64 n, .bool f, .slice q.a q.n q.c] :: RHp p S lc :: SLc s 1 (m.map bv) :: R ∧ 0 ≤ j ∧ j ≤ lr.length ∧ n' = lr.length - j.toNat ∧ ∀ y ∈ lr.take j.toNat, key6 y ≤ key6 r) u.1) lr.length ?_ ?_
    ·exact ⟨rfl, by simp, by dsimp only; omega, by simp, by simp⟩
    ·rintro n' ⟨(j : Int), ⟨⟩⟩ M ⟨rfl, j0, j1, rfl, hj⟩ Y hY
     dsimp only at j0 j1 hj hY ⊢
     refine en_drw (en_held [blk b6 [.int .i64 a, .int .i64 k, .int .i64 c, .int .i64 n, .bool f, .slice q.a q.n q.c]] tks ?_)
     refine en_br (fun h7 => ?_) (fun h7 => ?_)
     ·replace h7 : j < (t.n : Int) := of_decide_eq_true h7
      have hjl : j.toNat < lr.length := by omega
      refine en_getRoS hrt j0 (by rw [List.length_map]; omega) ?_
      refine en_ldS (k := .slice) (b := b6) (off := 5) (x := q) (by rw [fa_mk]) tk rfl ?_
      refine en_getRoS hq2 (by omega) (by omega) ?_
      rw [show (4 : Int).toNat = 4 from rfl]
      have hy : (lr.map (·.1)).getD j.toNat 0 = (lr.getD j.toNat d6).1 := by
       rw [List.getD_eq_getElem?_getD, List.getD_eq_getElem?_getD, List.getElem?_map, List.getElem?_eq_getElem hjl]; rfl
      have hyin : lr.getD j.toNat d6 ∈ lr := by rw [List.getD_eq_getElem?_getD, List.getElem?_eq_getElem hjl]; exact List.getElem_mem hjl
      have hyk := hkey _ (hlrm _ hyin)
      rw [hy]
      refine en_call (rh_field p S lc hw (lr.getD j.toNat d6).1 4) tks ?_
      rintro x' M ⟨rfl, rfl⟩
      try simp only [List.cons_append, List.nil_append]
      refine en_chk tks ?_
      refine Tr.take (A := blk b6 [.int .i64 a, .int .i64 k, .int .i64 c, .int .i64 n, .bool f, .slice q.a q.n q.c]) tk ?_
      rw [hyk, ← hkr, wrap64 (n := j + 1) (by omega) (by omega)]
      refine en_br (fun h8 => ?_) (fun h8 => ?_)
      ·have h8 : key6 (lr.getD j.toNat d6) ≤ key6 r := of_decide_eq_true h8
       refine hY (lr.length - (j + 1).toNat) _ _ (by omega) ⟨rfl, by dsimp only; omega, by dsimp only; omega, rfl, fun y hy => ?_⟩
       dsimp only at hy
       rw [show (j + 1).toNat = j.toNat + 1 by omega, take_succ_getD d6 hjl] at hy
       rcases List.mem_append.mp hy with hy | hy
       ·exact hj y hy
       ·rw [List.mem_singleton] at hy; rw [hy]; exact h8
      ·have h8 : ¬ key6 (lr.getD j.toNat d6) ≤ key6 r := of_decide_eq_false h8
       exact hJ (j, ()) _ ⟨j.toNat, (Int.toNat_of_nonneg j0).symm, by omega, hj, fun _ => by omega, rfl⟩
     ·replace h7 : ¬ j < (t.n : Int) := of_decide_eq_false h7
      exact hJ (j, ()) _ ⟨j.toNat, (Int.toNat_of_nonneg j0).symm, by omega, hj, fun g => by omega, rfl⟩
  ·replace h : ¬ i < (r1.n : Int) := of_decide_eq_false h
   rw [List.take_of_length_le (by omega)] at hper
   exact en_rets (x := t) rfl ⟨lr, rfl, hper, hsrt⟩ tks ens
end Go.Proofs.YtpefngbfgjfcgaaGreat
namespace Go.Gl
open Go
variable {ρ0 ρ : FR} {L L' : List Asn} {Post : Value → List Asn → Prop}
theorem Sat.thaw {b : Nat} {o : Obj} {w : World} (hr : ρ b = none) (H : Sat ⟨fun c => if c = b then some o else ρ c, ρ.z⟩ L w) : Sat ρ (Gl.pt b o :: L) w := by
 obtain ⟨⟨h, hl, hh⟩, h3⟩ := H
 have hb : h b = none := by
  cases e : h b with
  | none => rfl
  | some u => have := (hh b u e).2; simp at this
 refine ⟨⟨fun c => ((fun c => if c = b then some o else none) c).or (h c), ⟨_, h, fun c => ?_, rfl, rfl, hl⟩, fun c u hu => ?_⟩, ⟨fun c u hc => ?_, h3.same⟩⟩
 ·by_cases hc : c = b
  ·subst hc; exact .inr hb
  ·left; simp [hc]
 ·by_cases hc : c = b
  ·subst hc
   simp at hu
   subst hu
   exact ⟨h3.mem c o (by simp), hr⟩
  ·simp [hc] at hu
   obtain ⟨g1, g2⟩ := hh c u hu
   simp [hc] at g2
   exact ⟨g1, g2⟩
 ·have hc' : c ≠ b := by rintro rfl; rw [hr] at hc; cases hc
  exact h3.mem c u (by simp [hc', hc])
theorem Sat.emp {A : Asn} {w : World} (hA : A fun _ => none) (H : Sat ρ L w) : Sat ρ (A :: L) w := by
 obtain ⟨⟨h, hl, hh⟩, h3⟩ := H
 refine ⟨⟨h, ⟨fun _ => none, h, fun _ => .inl rfl, by funext c; simp, hA, hl⟩, hh⟩, h3⟩
theorem Spec.own {P : Program} {f : FuncId} {args : List Value} {A : List Asn} {r : RK} {B : RT r → List Asn → Prop} {s : Slc} {m : Nat} {xs : List Value} (hs : ∀ ρ', Le ρ ρ' → RoS ρ' s m xs → Spec ρ' P f args A r B) :
  Spec ρ P f args (SLc s m xs :: A) r fun x M => ∃ M', B x M' ∧ M = SLc s m xs :: M' := by
 intro R w hw
 rcases Sat.sl (L := A ++ R) hw with ⟨g1, g2, g3, g4, g5⟩ | ⟨b, off, pre, rest, g1, g2, g3, g4, g5, g6⟩
 ·refine (hs ρ (Le.refl _) ⟨by rw [g4, g2]; simp, .inl g2⟩ R w g5).mono ?_
  rintro e w' ⟨x, M, rfl, hB, hsat⟩
  exact ⟨x, _, rfl, ⟨M, hB, rfl⟩, Sat.emp (.inl ⟨g1, g2, g3, g4, fun _ => rfl⟩) hsat⟩
 ·obtain ⟨⟨h0, ⟨h1, h2, hd, rfl, ⟨ty, ha⟩, hl⟩, hh⟩, h3⟩ := g6
  generalize ho : Obj.cells (pre ++ (xs ++ rest)).toArray ty (0, 0) = o at *
  have hb1 : h1 b = some o := by rw [ha]; simp
  have hr : ρ b = none := (hh b o (by simp [hb1])).2
  have hb2 : h2 b = none := by
   rcases hd b with h | h
   ·rw [hb1] at h; cases h
   ·exact h
  have hle' : Le ρ ⟨fun c => if c = b then some o else ρ c, ρ.z⟩ := by
   refine ⟨fun c o' hc => ?_, rfl⟩
   have : c ≠ b := by rintro rfl; rw [hr] at hc; cases hc
   simp [this, hc]
  have hw' : Sat ⟨fun c => if c = b then some o else ρ c, ρ.z⟩ (A ++ R) w := by
   refine ⟨⟨h2, hl, fun c u hc => ?_⟩, ⟨fun c u hc => ?_, h3.same⟩⟩
   ·have hcb : c ≠ b := by rintro rfl; rw [hb2] at hc; cases hc
    have h1c : h1 c = none := by rw [ha]; simp [hcb]
    have := hh c u (by simp [h1c, hc])
    exact ⟨this.1, by simp [hcb, this.2]⟩
   ·by_cases hcb : c = b
    ·subst hcb; simp at hc; subst hc; exact (hh c o (by simp [hb1])).1
    ·simp [hcb] at hc; exact h3.mem c u hc
  refine (hs _ hle' ⟨g3, .inr ⟨b, off, _, ty, (0, 0), g1, by simp [← ho]; rfl, fun i hi => ?_⟩⟩ R w hw').mono ?_
  ·rw [List.getElem?_toArray, ← g2, mid_get hi]
  ·rintro e w' ⟨x, M, rfl, hB, hsat⟩
   refine ⟨x, _, rfl, ⟨M, hB, rfl⟩, (Sat.thaw hr hsat).imp ?_⟩
   intro h hh
   exact .inr ⟨b, off, pre, rest, g1, g2, g3, g4, g5, ty, by rw [ho]; exact hh⟩
theorem Spec.ownB {P : Program} {f : FuncId} {args : List Value} {A : List Asn} {r : RK} {B : RT r → List Asn → Prop} {b : Nat} {cs : List Value} (hs : ∀ ρ' : FR, Le ρ ρ' → (∃ ty, ρ' b = some (.cells cs.toArray ty (0, 0))) → Spec ρ' P f args A r B) :
  Spec ρ P f args (blk b cs :: A) r fun x M => ∃ M', B x M' ∧ M = blk b cs :: M' := by
 intro R w hw
 obtain ⟨⟨h0, ⟨h1, h2, hd, rfl, ⟨ty, ha⟩, hl⟩, hh⟩, h3⟩ := hw
 generalize ho : Obj.cells cs.toArray ty (0, 0) = o at *
 have hb1 : h1 b = some o := by rw [ha]; simp
 have hr : ρ b = none := (hh b o (by simp [hb1])).2
 have hb2 : h2 b = none := by
  rcases hd b with h | h
  ·rw [hb1] at h; cases h
  ·exact h
 have hle' : Le ρ ⟨fun c => if c = b then some o else ρ c, ρ.z⟩ := by
  refine ⟨fun c o' hc => ?_, rfl⟩
  have : c ≠ b := by rintro rfl; rw [hr] at hc; cases hc
  simp [this, hc]
 have hw' : Sat ⟨fun c => if c = b then some o else ρ c, ρ.z⟩ (A ++ R) w := by
  refine ⟨⟨h2, hl, fun c u hc => ?_⟩, ⟨fun c u hc => ?_, h3.same⟩⟩
  ·have hcb : c ≠ b := by rintro rfl; rw [hb2] at hc; cases hc
   have h1c : h1 c = none := by rw [ha]; simp [hcb]
   have := hh c u (by simp [h1c, hc])
   exact ⟨this.1, by simp [hcb, this.2]⟩
  ·by_cases hcb : c = b
   ·subst hcb; simp at hc; subst hc; exact (hh c o (by simp [hb1])).1
   ·simp [hcb] at hc; exact h3.mem c u hc
 refine (hs _ hle' ⟨ty, by simp [← ho]⟩ R w hw').mono ?_
 rintro e w' ⟨x, M, rfl, hB, hsat⟩
 refine ⟨x, _, rfl, ⟨M, hB, rfl⟩, (Sat.thaw hr hsat).imp ?_⟩
 intro h hh
 exact ⟨ty, by rw [ho]; exact hh⟩
end Go.Gl
namespace Go.Proofs.YtpefngbfgjfcgaaGreat
open Go Go.Gl
variable {ρ0 ρ : FR} {L L' : List Asn} {Post : Value → List Asn → Prop} {T : Tree}
theorem sorted_ex (l0 : List Rf6) : ∃ l : List Rf6, l.Perm l0 ∧ l.Pairwise fun a b => key6 a ≤ key6 b := by
 refine ⟨l0.mergeSort fun a b => decide (key6 a ≤ key6 b), List.mergeSort_perm _ _, ?_⟩
 have := List.pairwise_mergeSort (le := fun a b : Rf6 => decide (key6 a ≤ key6 b)) (fun a b c h1 h2 => by
  rw [decide_eq_true_iff] at *; omega) (fun a b => by rw [Bool.or_eq_true, decide_eq_true_iff, decide_eq_true_iff]; omega) l0
 exact this.imp fun h => by simpa using h
theorem clear_is {S : Spc} (hk : KeyInj S) {m : List Bool} {xs : List Int} {fr tt : Int} (hx : ∀ c, c ∈ xs ↔ (fr ≤ c ∧ c ≤ tt)) {l lr : List Rf6} (hp : l.Perm (refsOf S)) (hs : l.Pairwise fun a b => key6 a ≤ key6 b) (hp' : lr.Perm ((refsOf S).filter (serB S m fr tt))) (hs' : lr.Pairwise fun a b => key6 a ≤ key6 b) : lr.map (·.1) = clearOf S m xs l := by
 have e : (fun r : Rf6 => decide (r.2.1 ∈ xs) && lostB S m r) = serB S m fr tt := by
  funext r
  unfold serB
  rw [← Bool.and_assoc]
  congr 1
  rw [Bool.eq_iff_iff, Bool.and_eq_true, decide_eq_true_iff, decide_eq_true_iff, decide_eq_true_iff]
  exact hx _
 unfold clearOf
 rw [e]
 congr 1
 refine srt_eq hk (fun r hr => (List.mem_filter.mp (hp'.mem_iff.mp hr)).1) (hp'.trans (hp.filter _).symm) hs' (hs.filter _)
theorem put_step {S : Spc} {m : List Bool} {xs : List Int} {i : Int} (i0 : 0 ≤ i) (hi : i.toNat < xs.length) : putOf S m (xs.take (i + 1).toNat) = putOf S m (xs.take i.toNat) ++ (if (Sp.has m (xs.getD i.toNat 0) && decide ((Ob.get S (xs.getD i.toNat 0) 1).1 > 0)) = true then [xs.getD i.toNat 0] else []) := by
 have ht : xs.take (i + 1).toNat = xs.take i.toNat ++ [xs.getD i.toNat 0] := by rw [show (i + 1).toNat = i.toNat + 1 by omega, take_succ_getD 0 hi]
 unfold putOf
 rw [ht, List.filter_append]
 congr 1
 by_cases hc : (Sp.has m (xs.getD i.toNat 0) && decide ((Ob.get S (xs.getD i.toNat 0) 1).1 > 0)) = true
 ·rw [if_pos hc, List.filter_cons_of_pos (p := fun a => Sp.has m a && decide ((Ob.get S a 1).1 > 0)) hc]; rfl
 ·rw [if_neg hc, List.filter_cons_of_neg (p := fun a => Sp.has m a && decide ((Ob.get S a 1).1 > 0)) hc]; rfl
theorem pend_step {S : Spc} {m : List Bool} {fs : List Int} {i : Int} (i0 : 0 ≤ i) (hi : i.toNat < fs.length) : pendOf S m (fs.take (i + 1).toNat) = pend1 S m (pendOf S m (fs.take i.toNat)) (fs.getD i.toNat 0) := by
 unfold pendOf
 rw [show (i + 1).toNat = i.toNat + 1 by omega, take_succ_getD 0 hi, List.foldl_append]; rfl
theorem rm_process (p : Nat) (S : Spc) (lc : List (Cls × Slc)) (hw : HWf S (csO lc)) (hkn : Kn S (csO lc)) (hln : ∀ x ∈ lc, x.2.n = x.1.2.length) (hcl : ∀ c ∈ csO lc, c.2.length ≤ 1023) (hkey : KeyInj S) (x : In7) (hx : x.Ok) (ro fs : List Int) (hro : RoS ρ x.ro 1 (ro.map i64)) (hfi : RoS ρ x.fi 1 (fs.map i64)) (hl1 : ro.length < 2 ^ 30) (hl2 : fs.length < 2 ^ 30)
  (hst : ∀ r ∈ refsOf S, r.2.2.2.2.1 < 9223372036854775808) :
  Gl.Spec ρ Tryz.prog 19 [.pointer (some ⟨p, 0, none⟩), inV x] [RHp p S lc] (.one (.g OutL))
  fun r M => ∃ (s1 s2 s3 s4 : Slc) (l : List Rf6) (m2 m3 : List Bool), r = (s1, s2, s3, s4, ()) ∧ Coll S (csO lc) x ro fs l m2 m3 ∧
   M = [SLc s1 1 ((clrOf S m2 m3 l).map i64), SLc s2 1 ((putOf S m3 (clrOf S m2 m3 l)).map i64), SLc s3 1 ((pendOf S m2 fs).map i64), SLc s4 1 ((Mk.all m3).map i64), RHp p S lc] := by
 refine Spec.of (fun Q w h => F.gloamingref9.Process.calls (some ⟨p, 0, none⟩) (inT x) h) fun R => ?_
 unfold F.gloamingref9.Process
 try simp only [List.cons_append, List.nil_append]
 have hwl := hw.wf.len
 have hwm := hw.wf.most
 have hoin : ∀ a, Mk.obj S a → 0 ≤ a ∧ a < S.ws.length := fun a ha => by
  obtain ⟨g1, g2⟩ := Mk.obj_in hw ha
  omega
 refine en_nw fun b1 => en_nw fun b2 => ?_
 rw [zcOut]
 refine en_call (rm_new p S lc hw.wf) tks ?_
 rintro r3 M ⟨hn3, rfl⟩
 try simp only [List.cons_append, List.nil_append]
 refine en_ld (k := .slice) (b := b1) (off := 0) (x := x.ro) (by rw [fa_mk]) tk rfl ?_
 refine en_call (rm_mark p S lc hw hkn hln hcl r3 _ Mk.closed0 x.ro ro hro hl1) tks ?_
 rintro x' M ⟨m1, rfl, hC1, hm1⟩
 try simp only [List.cons_append, List.nil_append]
 refine en_lp (fun n u M => ∃ mm : List Bool, M = SLc r3 1 (mm.map bv) :: RHp p S lc :: blk b2 [.slice none 0 0, .slice none 0 0, .slice none 0 0, .slice none 0 0] :: blk b1 (inC x) :: R ∧ n = mm.count false ∧ Mk.Closed S (csO lc) mm ∧ (∀ a, Mk.Rch S (csO lc) ro a → Sp.has mm a = true) ∧ ∀ a, Sp.has mm a = true → SoftR S (csO lc) (refsOf S) x (Mk.Rch S (csO lc) ro) a) _ ⟨m1, rfl, rfl, hC1, fun a h => (hm1 a).mpr (.inr h), fun a h => ?_⟩ ?_
 ·rcases (hm1 a).mp h with h | h
  ·rw [Mk.has0] at h; cases h
  ·exact .base h
 clear hm1 hC1 m1
 rintro n ⟨⟩ M ⟨mm, rfl, rfl, hC, hup, hsnd⟩ X hX
 refine en_ldg (b := b1) (off := 0) (x := inT x) [] rfl tk rfl ?_
 refine en_call (rm_softly p S lc hw x hx hst r3 mm hC.len) tks ?_
 rintro r9 M ⟨rfl, hr9⟩
 try simp only [List.cons_append, List.nil_append]
 have hml := hC.len
 refine en_br (fun h => ?_) (fun h => ?_)
 ·have h : r9 = 0 := eq_of_beq h
  have hno : ∀ f ∈ refsOf S, keptB S mm x f = false := by
   rcases hr9 with hr9 | ⟨f, hf, hk, e⟩
   ·exact hr9.2
   ·exfalso
    unfold keptB lostB at hk
    rw [Bool.and_eq_true, Bool.and_eq_true, Bool.and_eq_true, Bool.and_eq_true, Bool.and_eq_true] at hk
    obtain ⟨_, _, _, ⟨g4, _⟩, _⟩ := hk
    rw [← e, h] at g4
    exact Mk.obj_zero hw g4
  have has2 : ∀ a, Sp.has mm a = true ↔ SoftR S (csO lc) (refsOf S) x (Mk.Rch S (csO lc) ro) a := fun a => ⟨hsnd a, fun ha => by
   induction ha with
   | base h => exact hup _ h
   | @keep r a hr g1 g2 _ g4 go ga ih =>
    have hno := hno r hr
    have hm : Sp.has mm r.2.2.1 = true := by
     cases hm : Sp.has mm r.2.2.1 with
     | true => rfl
     | false =>
      have : keptB S mm x r = true := by
       unfold keptB lostB
       unfold Mk.obj at go
       rw [decide_eq_true g1, g2, ih, go, hm, g4]; rfl
      rw [this] at hno; cases hno
    exact hC.rch (fun b hb _ => by rw [List.mem_singleton] at hb; rw [hb]; exact hm) ga⟩
  clear hX hr9 hno hup hsnd
  refine en_nw fun b10 => ?_
  refine en_call (rm_bySerial p S lc hw r3 mm hC.len 1 2) tks ?_
  rintro r11 M ⟨l12, rfl, hp12, hs12⟩
  try simp only [List.cons_append, List.nil_append]
  obtain ⟨l, hpl, hsl⟩ := sorted_ex (refsOf S)
  have e12 : l12.map (·.1) = clearOf S mm [1, 2] l := clear_is hkey (fun c => by simp; omega) hpl hsl hp12 hs12
  rw [e12]
  clear e12 hp12 hs12 l12
  have hll : l.length < 2 ^ 14 := by rw [hpl.length_eq]; exact refs_few hw
  have hc2 := clear_len (S := S) (m := mm) (xs := [1, 2]) (l := l)
  refine en_st (b := b10) (off := 0) rfl tk (by simp) rfl ?_
  refine Tr.take (A := blk b10 [.slice r11.a r11.n r11.c, .slice none 0 0, .slice none 0 0, .slice none 0 0]) tk ?_
  refine Tr.nilSL 1 ?_
  refine en_lp (fun n u M => (fun i : Int => ∃ o : Slc, M = SLc o 1 ((pendOf S mm (fs.take i.toNat)).map i64) :: blk b10 [.slice r11.a r11.n r11.c, .slice none 0 0, .slice o.a o.n o.c, .slice none 0 0] :: SLc r11 1 ((clearOf S mm [1, 2] l).map i64) :: SLc r3 1 (mm.map bv) :: RHp p S lc :: blk b2 [.slice none 0 0, .slice none 0 0, .slice none 0 0, .slice none 0 0] :: blk b1 (inC x) :: R ∧ 0 ≤ i ∧ i ≤ fs.length ∧ n = fs.length - i.toNat) u.1) fs.length ?_ ?_
  ·refine ⟨⟨none, 0, 0⟩, ?_, by simp, by dsimp only; omega, by simp⟩
   simp [pendOf]
  ·rintro n ⟨(i : Int), ⟨⟩⟩ M ⟨o, rfl, i0, i1, rfl⟩ X hX
   dsimp only at i0 i1 hX ⊢
   refine en_ld (k := .slice) (b := b1) (off := 1) (x := x.fi) (by rw [fa_mk]) tk rfl ?_
   have hfn := hfi.len
   have hpl2 := pend_le (S := S) (m := mm) (fs := fs.take i.toNat)
   rw [List.length_take] at hpl2
   refine Tr.nlen (s := o) (xs := pendOf S mm (fs.take i.toNat)) tk fun hon => ?_
   refine en_br (fun h => ?_) (fun h => ?_)
   ·replace h : i < (x.fi.n : Int) := of_decide_eq_true h
    have hi : i.toNat < fs.length := by omega
    have hstep := pend_step (S := S) (m := mm) i0 hi
    refine en_ld (k := .slice) (b := b1) (off := 1) (x := x.fi) (by rw [fa_mk]) tk rfl ?_
    refine en_getRo hfi i0 (by omega) ?_
    generalize fs.getD i.toNat 0 = a at *
    generalize pendOf S mm (fs.take i.toNat) = os at *
    rw [wrap64 (n := i + 1) (by omega) (by omega)]
    have go : ∀ (o' : Slc) (os' : List Int), os' = pend1 S mm os a → Tr ρ ρ (SLc o' 1 (os'.map i64) :: blk b10 [.slice r11.a r11.n r11.c, .slice none 0 0, .slice o'.a o'.n o'.c, .slice none 0 0] :: SLc r11 1 ((clearOf S mm [1, 2] l).map i64) :: SLc r3 1 (mm.map bv) :: RHp p S lc :: blk b2 [.slice none 0 0, .slice none 0 0, .slice none 0 0, .slice none 0 0] :: blk b1 (inC x) :: R) (X (i + 1, ())) (SP (.one (.g OutL)) (fun r M => ∃ (s1 s2 s3 s4 : Slc) (l : List Rf6) (m2 m3 : List Bool), r = (s1, s2, s3, s4, ()) ∧ Coll S (csO lc) x ro fs l m2 m3 ∧ M = [SLc s1 1 ((clrOf S m2 m3 l).map i64), SLc s2 1 ((putOf S m3 (clrOf S m2 m3 l)).map i64), SLc s3 1 ((pendOf S m2 fs).map i64), SLc s4 1 ((Mk.all m3).map i64), RHp p S lc]) R) := fun o' os' e => by
     refine hX (fs.length - (i + 1).toNat) _ _ (by omega) ⟨o', ?_, by dsimp only; omega, by dsimp only; omega, rfl⟩
     dsimp only
     rw [hstep, e]
    refine en_call (rh_head p S lc hw a) tks ?_
    rintro x' M ⟨rfl, rfl⟩
    try simp only [List.cons_append, List.nil_append]
    refine Tr.take (A := SLc r3 1 (mm.map bv)) tk (Tr.take (A := SLc r11 1 ((clearOf S mm [1, 2] l).map i64)) tk (Tr.take (A := blk b10 [.slice r11.a r11.n r11.c, .slice none 0 0, .slice o.a o.n o.c, .slice none 0 0]) tk (Tr.take (A := SLc o 1 (os.map i64)) tk ?_)))
    have elost : lostB S mm (0, 0, a, 0, 0, 0, ()) = ((Ob.head S a).isSome && !Sp.has mm a) := rfl
    cases hh : Ob.head S a with
    | none =>
     refine en_brf rfl ?_
     exact go o os (by unfold pend1; rw [if_neg (fun g => by rw [elost, hh] at g; cases g.1)])
    | some hd =>
     have how := hoin a (by unfold Mk.obj; rw [hh]; rfl)
     refine en_brt rfl ?_
     refine en_getB (s := r3) (xs := mm) tk how.1 (by omega) ?_
     refine en_br (fun h2 => ?_) (fun h2 => ?_)
     ·have h2 : mm.getD a.toNat false = false := by simpa using h2
      refine en_ld (k := .slice) (b := b10) (off := 2) (x := o) (by rw [fa_mk]) tk rfl ?_
      refine en_call (Spec.own (s := o) (xs := os.map i64) (A := []) fun ρ' _ hro' => ref_in o os hro' (by omega) a) tks ?_
      rintro x' M ⟨M', ⟨rfl, rfl⟩, rfl⟩
      try simp only [List.cons_append, List.nil_append]
      refine en_br (fun h3 => ?_) (fun h3 => ?_)
      ·have h3 : a ∉ os := by simpa using h3
       refine en_ld (k := .slice) (b := b10) (off := 2) (x := o) (by rw [fa_mk]) tk rfl ?_
       refine en_appI (s := o) (xs := os) appInt tk (by omega) fun r hr => ?_
       refine en_st (b := b10) (off := 2) rfl tk (by simp) rfl ?_
       refine Tr.take (A := blk b10 [.slice r11.a r11.n r11.c, .slice none 0 0, .slice r.a r.n r.c, .slice none 0 0]) tk (Tr.take (A := SLc r 1 ((os ++ [a]).map i64)) tk ?_)
       exact go r _ (by unfold pend1; rw [if_pos ⟨by rw [elost, hh, has_getD how.1, h2]; rfl, h3⟩])
      ·have h3 : a ∈ os := by simpa using h3
       exact go o os (by unfold pend1; rw [if_neg (fun g => g.2 h3)])
     ·have h2 : mm.getD a.toNat false = true := by simpa using h2
      exact go o os (by unfold pend1; rw [if_neg (fun g => by rw [elost, has_getD how.1, h2] at g; simp at g)])
   ·replace h : ¬ i < (x.fi.n : Int) := of_decide_eq_false h
    clear hX
    rw [List.take_of_length_le (by omega)] at hon ⊢
    have hple := pend_le (S := S) (m := mm) (fs := fs)
    generalize hos : pendOf S mm fs = os at *
    refine en_ld (k := .slice) (b := b10) (off := 2) (x := o) (by rw [fa_mk]) tk rfl ?_
    refine en_call (Spec.own (s := o) (xs := os.map i64) (A := [SLc r3 1 (mm.map bv), RHp p S lc]) fun ρ' _ hro' => rm_mark p S lc hw hkn hln hcl r3 mm hC o os hro' (by omega)) tks ?_
    rintro x' M ⟨M', ⟨m3, rfl, hC3, hm3⟩, rfl⟩
    try simp only [List.cons_append, List.nil_append]
    have hml3 := hC3.len
    refine en_drw (en_held [blk b10 [.slice r11.a r11.n r11.c, .slice none 0 0, .slice o.a o.n o.c, .slice none 0 0]] tks ?_)
    refine en_ldS (k := .slice) (b := b10) (off := 0) (x := r11) (by rw [fa_mk]) tk rfl ?_
    refine en_call (rm_bySerial p S lc hw r3 m3 hml3 3 3) tks ?_
    rintro r19 M ⟨l3, rfl, hp3, hs3⟩
    try simp only [List.cons_append, List.nil_append]
    have e3 : l3.map (·.1) = clearOf S m3 [3] l := clear_is hkey (fun c => by simp; omega) hpl hsl hp3 hs3
    rw [e3]
    clear e3 hp3 hs3 l3
    have hc3 := clear_len (S := S) (m := m3) (xs := [3]) (l := l)
    refine en_chk tks ?_
    refine Tr.nlen (s := r19) (xs := clearOf S m3 [3] l) tk fun hn19 => ?_
    refine en_appS (s := r11) (x := r19) (xs := clearOf S mm [1, 2] l) (ys := clearOf S m3 [3] l) appInt tk (Rd.sl tk (by simp [hn19])) (by omega) fun r20 h20 => ?_
    refine Tr.drop (A := SLc r19 1 ((clearOf S m3 [3] l).map i64)) tk ?_
    have hcin : ∀ a ∈ clrOf S mm m3 l, 0 ≤ a ∧ a < S.ws.length := fun a ha => by
     have hr : ∃ r ∈ l, r.1 = a := by
      rcases List.mem_append.mp ha with ha | ha
      ·obtain ⟨r, hr, e, _⟩ := mem_clear.mp ha
       exact ⟨r, hr, e⟩
      ·obtain ⟨r, hr, e, _⟩ := mem_clear.mp ha
       exact ⟨r, hr, e⟩
     obtain ⟨r, hr, rfl⟩ := hr
     obtain ⟨hd, hh, _⟩ := (mem_refsOf hw).mp (hpl.mem_iff.mp hr)
     exact hoin _ (by unfold Mk.obj; rw [hh]; rfl)
    have hclen := clr_le (S := S) (m2 := mm) (m3 := m3) (l := l)
    rw [show clearOf S mm [1, 2] l ++ clearOf S m3 [3] l = clrOf S mm m3 l from rfl]
    rw [← List.length_append, show clearOf S mm [1, 2] l ++ clearOf S m3 [3] l = clrOf S mm m3 l from rfl] at h20
    generalize hcl9 : clrOf S mm m3 l = cl at *
    refine en_st (b := b10) (off := 0) rfl tk (by simp) rfl ?_
    refine Tr.take (A := blk b10 [.slice r20.a r20.n r20.c, .slice none 0 0, .slice o.a o.n o.c, .slice none 0 0]) tk ?_
    refine Tr.nilSL 1 ?_
    refine en_lp (fun n u M => (fun i : Int => ∃ o2 : Slc, M = SLc o2 1 ((putOf S m3 (cl.take i.toNat)).map i64) :: blk b10 [.slice r20.a r20.n r20.c, .slice o2.a o2.n o2.c, .slice o.a o.n o.c, .slice none 0 0] :: SLc r20 1 (cl.map i64) :: SLc r3 1 (m3.map bv) :: RHp p S lc :: SLc o 1 (os.map i64) :: blk b2 [.slice none 0 0, .slice none 0 0, .slice none 0 0, .slice none 0 0] :: blk b1 (inC x) :: R ∧ 0 ≤ i ∧ i ≤ cl.length ∧ n = cl.length - i.toNat) u.1) cl.length ?_ ?_
    ·refine ⟨⟨none, 0, 0⟩, ?_, by simp, by dsimp only; omega, by simp⟩
     simp [putOf]
    ·clear h i0 i1 i hpl2
     rintro n ⟨(i : Int), ⟨⟩⟩ M ⟨o2, rfl, i0, i1, rfl⟩ X hX
     dsimp only at i0 i1 hX ⊢
     refine en_ld (k := .slice) (b := b10) (off := 0) (x := r20) (by rw [fa_mk]) tk rfl ?_
     have hpul := put_len (S := S) (m := m3) (xs := cl.take i.toNat)
     rw [List.length_take] at hpul
     refine en_br (fun h => ?_) (fun h => ?_)
     ·replace h : i < (r20.n : Int) := of_decide_eq_true h
      have hi : i.toNat < cl.length := by omega
      have hstep := put_step (S := S) (m := m3) i0 hi
      have hain := hcin (cl.getD i.toNat 0) (by rw [List.getD_eq_getElem?_getD, List.getElem?_eq_getElem hi]; exact List.getElem_mem hi)
      refine en_ld (k := .slice) (b := b10) (off := 0) (x := r20) (by rw [fa_mk]) tk rfl ?_
      refine en_getSL (s := r20) (xs := cl) tk i0 (by omega) ?_
      generalize cl.getD i.toNat 0 = a at *
      rw [wrap64 (n := i + 1) (by omega) (by omega)]
      have go : ∀ (o' : Slc) (os' : List Int), os' = putOf S m3 (cl.take (i + 1).toNat) → Tr ρ ρ (SLc o' 1 (os'.map i64) :: blk b10 [.slice r20.a r20.n r20.c, .slice o'.a o'.n o'.c, .slice o.a o.n o.c, .slice none 0 0] :: SLc r20 1 (cl.map i64) :: SLc r3 1 (m3.map bv) :: RHp p S lc :: SLc o 1 (os.map i64) :: blk b2 [.slice none 0 0, .slice none 0 0, .slice none 0 0, .slice none 0 0] :: blk b1 (inC x) :: R) (X (i + 1, ())) (SP (.one (.g OutL)) (fun r M => ∃ (s1 s2 s3 s4 : Slc) (l : List Rf6) (m2 m3 : List Bool), r = (s1, s2, s3, s4, ()) ∧ Coll S (csO lc) x ro fs l m2 m3 ∧ M = [SLc s1 1 ((clrOf S m2 m3 l).map i64), SLc s2 1 ((putOf S m3 (clrOf S m2 m3 l)).map i64), SLc s3 1 ((pendOf S m2 fs).map i64), SLc s4 1 ((Mk.all m3).map i64), RHp p S lc]) R) := fun o' os' e => by
       refine hX (cl.length - (i + 1).toNat) _ _ (by omega) ⟨o', ?_, by dsimp only; omega, by dsimp only; omega, rfl⟩
       dsimp only
       rw [e]
      refine en_getB (s := r3) (xs := m3) tk hain.1 (by omega) ?_
      refine en_br (fun h2 => ?_) (fun h2 => ?_)
      ·refine en_call (rh_field p S lc hw a 1) tks ?_
       rintro x' M ⟨rfl, rfl⟩
       try simp only [List.cons_append, List.nil_append]
       refine Tr.take (A := SLc r3 1 (m3.map bv)) tk (Tr.take (A := SLc r20 1 (cl.map i64)) tk (Tr.take (A := blk b10 [.slice r20.a r20.n r20.c, .slice o2.a o2.n o2.c, .slice o.a o.n o.c, .slice none 0 0]) tk (Tr.take (A := SLc o2 1 ((putOf S m3 (cl.take i.toNat)).map i64)) tk ?_)))
       refine en_br (fun h3 => ?_) (fun h3 => ?_)
       ·refine en_ld (k := .slice) (b := b10) (off := 1) (x := o2) (by rw [fa_mk]) tk rfl ?_
        refine en_appI (s := o2) (xs := putOf S m3 (cl.take i.toNat)) appInt tk (by omega) fun r hr => ?_
        refine en_st (b := b10) (off := 1) rfl tk (by simp) rfl ?_
        refine Tr.take (A := blk b10 [.slice r20.a r20.n r20.c, .slice r.a r.n r.c, .slice o.a o.n o.c, .slice none 0 0]) tk (Tr.take (A := SLc r 1 ((putOf S m3 (cl.take i.toNat) ++ [a]).map i64)) tk ?_)
        exact go r _ (by rw [hstep, has_getD hain.1, h2, if_pos (by rw [Bool.true_and]; exact h3)])
       ·exact go o2 _ (by rw [hstep, has_getD hain.1, h2, if_neg (by rw [Bool.true_and]; exact fun g => by rw [show decide ((Ob.get S a 1).1 > 0) = false from h3] at g; cases g), List.append_nil])
      ·exact go o2 _ (by rw [hstep, has_getD hain.1, h2, if_neg (by simp), List.append_nil])
     ·replace h : ¬ i < (r20.n : Int) := of_decide_eq_false h
      clear hX
      rw [List.take_of_length_le (by omega)]
      refine en_call (rm_all r3 m3 (by omega)) tks ?_
      rintro r24 M rfl
      try simp only [List.cons_append, List.nil_append]
      refine en_st (b := b10) (off := 3) rfl tk (by simp) rfl ?_
      refine Tr.take (A := blk b10 [.slice r20.a r20.n r20.c, .slice o2.a o2.n o2.c, .slice o.a o.n o.c, .slice r24.a r24.n r24.c]) tk ?_
      refine en_ldg (b := b10) (off := 0) (x := ((r20, o2, o, r24, ()) : LTs OutL)) [] rfl tk rfl ?_
      refine en_st (b := b2) (off := 0) rfl tk (by simp) rfl ?_
      refine Tr.take (A := blk b2 [.slice r20.a r20.n r20.c, .slice o2.a o2.n o2.c, .slice o.a o.n o.c, .slice r24.a r24.n r24.c]) tk ?_
      refine en_ldg (b := b2) (off := 0) (x := ((r20, o2, o, r24, ()) : LTs OutL)) [] rfl tk rfl ?_
      refine en_rets (x := ((r20, o2, o, r24, ()) : LTs OutL)) rfl ⟨r20, o2, o, r24, l, mm, m3, rfl, ⟨hpl, hsl, hC, hC3, has2, fun a => by rw [hos]; exact hm3 a⟩, by rw [hcl9, hos]⟩ tks ens
 ·have h : r9 ≠ 0 := by simpa using h
  obtain ⟨f, hf, hg, rfl⟩ : ∃ f ∈ refsOf S, keptB S mm x f = true ∧ r9 = f.2.2.1 := by
   rcases hr9 with hr9 | hr9
   ·exact absurd hr9.1 h
   ·exact hr9
  refine en_nw fun b10 => ?_
  refine Rd.bk (n := 1) (m := 1) (vs := ([f.2.2.1] : List Int).map i64) rfl tk fun ρ1 hle1 ro1 => ?_
  refine en_call (rm_mark p S lc hw hkn hln hcl r3 mm hC ⟨some ⟨b10, 0, none⟩, 1, 1⟩ [f.2.2.1] ro1 (by simp)) tks ?_
  rintro x' M ⟨m2, rfl, hC2, hm2⟩
  try simp only [List.cons_append, List.nil_append]
  unfold keptB lostB at hg
  rw [Bool.and_eq_true, Bool.and_eq_true, Bool.and_eq_true, Bool.and_eq_true, Bool.and_eq_true] at hg
  obtain ⟨g1, g2, g3, ⟨g4, g5⟩, g6⟩ := hg
  have hold : ∀ a, Sp.has mm a = true → Sp.has m2 a = true := fun a h => (hm2 a).mpr (.inl h)
  have hcnt : m2.count false < mm.count false := by
   obtain ⟨k0, k1⟩ := hoin _ g4
   have hm9 : Sp.has m2 f.2.2.1 = true := (hm2 _).mpr (.inr (.root (List.mem_singleton.mpr rfl) g4))
   have hl2 := hC2.len
   refine count_lt6 f.2.2.1.toNat (by omega) (fun i hi => ?_) ?_ ?_
   ·have := hold (i : Int) (by unfold Sp.has; rw [decide_eq_true (by omega), Int.toNat_natCast, hi]; rfl)
    unfold Sp.has at this
    rw [decide_eq_true (by omega), Bool.true_and, Int.toNat_natCast] at this
    exact this
   ·rw [has_getD k0] at g5
    simpa using g5
   ·rw [has_getD k0] at hm9
    exact hm9
  refine tr_weak2 (Le.refl _) hle1 ?_
  refine hX _ _ _ hcnt ⟨m2, rfl, rfl, hC2, fun a h => hold a (hup a h), fun a h => ?_⟩
  rcases (hm2 a).mp h with h | h
  ·exact hsnd a h
  ·exact .keep hf (of_decide_eq_true g1) (by simpa using g2) (hsnd _ g3) g6 g4 h
end Go.Proofs.YtpefngbfgjfcgaaGreat
