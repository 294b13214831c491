/- What is asked of both heaps. -/
import Derived.Test.YtpefngbfgjfcgaaGreatGsModel
import Derived.Test.YtpefngbfgjfcgaaGreatGsMark5
set_option linter.unusedSimpArgs false
set_option linter.unusedVariables false
namespace Go.Proofs.YtpefngbfgjfcgaaGreat
open Go Go.Gl
variable {ρ0 ρ : FR} {L L' : List Asn} {Post : Value → List Asn → Prop} {T : Tree}
theorem tr_drops {A R : List Asn} (t : Takes L A R) (h : Tr ρ0 ρ R T Post) : Tr ρ0 ρ L T Post := fun hle w hw => h hle w (hw.perm t.perm).dropL
theorem tr_weak2 {ρ' : FR} (h0 : Le ρ0 ρ) (hle : Le ρ ρ') (h : Tr ρ0 ρ L T Post) : Tr ρ0 ρ' L T Post := fun _ w hw => h h0 w (hw.weak hle)
theorem obj_each {S : Spc} {cs : List Cls} (hw : HWf S cs) {a : Int} : a ∈ Sp.each S ↔ ∃ h, Ob.head S a = some h := by
 constructor
 ·intro h
  obtain ⟨n, w, rfl, hf⟩ := (mem_each hw.wf).mp h
  exact ⟨_, by unfold Ob.head; rw [hf]; dsimp only; rw [if_pos rfl]⟩
 ·rintro ⟨h, hh⟩
  obtain ⟨n, w, rfl, hf, _⟩ := Ob.head_is hw hh
  exact (mem_each hw.wf).mpr ⟨n, w, rfl, hf⟩
theorem Kn.make {S : Spc} {cs : List Cls} (hw : HWf S cs) (hk : Kn S cs) (h : Hd) : Kn (Ob.make S cs h).2.2 cs := by
 by_cases h0 : (Ob.make S cs h).2.1 = 0
 ·intro a h' hh hk1
  have hin := (each_make hw h0).mem_iff.mp ((obj_each (hw.make h)).mpr ⟨h', hh⟩)
  rcases List.mem_cons.mp hin with rfl | hin
  ·rw [Ob.make_head hw h0] at hh
   injection hh with hh
   subst hh
   obtain ⟨_, _, _, hm, _⟩ := Ob.make_ok hw h0
   unfold Ob.may at hm
   split at hm
   ·cases hm
   ·rw [if_neg (fun g => g hk1)] at hm
    split at hm
    ·exact ⟨_, by assumption⟩
    ·cases hm
  ·obtain ⟨h1, hh1⟩ := (obj_each hw).mp hin
   rw [(Ob.make_keep hw h0 hh1).1] at hh
   injection hh with hh
   subst hh
   exact hk a _ hh1 hk1
 ·have : (Ob.make S cs h).2.2 = S := by
   unfold Ob.make at h0 ⊢
   split
   ·rfl
   ·rename_i h1
    rw [if_neg h1] at h0
    split
    ·rfl
    ·rename_i h2; rw [if_neg h2] at h0; exact absurd rfl h0
  rw [this]; exact hk
theorem Kn.put {S : Spc} {cs : List Cls} (hw : HWf S cs) (hk : Kn S cs) (a i x : Int) : Kn (Ob.put S a i x).2 cs := by
 by_cases h0 : (Ob.fieldAt S a i).2 = 0
 ·obtain ⟨hd, e, i0, i1, _⟩ := Ob.fieldAt_ok hw h0
  obtain ⟨_, hkeep⟩ := Ob.put_keep (x := x) hw e i0 i1
  intro b h' hh hk1
  have hin := (obj_each (hw.put a i x)).mpr ⟨h', hh⟩
  rw [put_each hw] at hin
  obtain ⟨h1, hh1⟩ := (obj_each hw).mp hin
  rw [(hkeep b h1 hh1).1] at hh
  injection hh with hh
  subst hh
  exact hk b _ hh1 hk1
 ·have : (Ob.put S a i x).2 = S := by unfold Ob.put; rw [if_pos h0]
  rw [this]; exact hk
theorem Kn.final {S : Spc} {cs : List Cls} (hw : HWf S cs) (hk : Kn S cs) (a : Int) : Kn (Ob.final S a).2 cs := by
 cases hh : Ob.head S a with
 | none =>
  have : (Ob.final S a).2 = S := by unfold Ob.final; rw [hh]
  rw [this]; exact hk
 | some h =>
  by_cases h4 : h.k = 4
  ·have : (Ob.final S a).2 = S := by unfold Ob.final; rw [hh]; dsimp only; rw [if_pos h4]
   rw [this]; exact hk
  ·cases hf : h.f with
   | true =>
    have : (Ob.final S a).2 = S := by unfold Ob.final; rw [hh]; dsimp only; rw [if_neg h4, if_pos hf]
    rw [this]; exact hk
   | false =>
    obtain ⟨_, g2, g3, _⟩ := Ob.final_keep hw hh h4 hf
    have he : Sp.each (Ob.final S a).2 = Sp.each S := by
     unfold Ob.final; rw [hh]; dsimp only; rw [if_neg h4, if_neg (by rw [hf]; simp)]; rfl
    intro b h' hb hk1
    have hin := (obj_each (hw.final a)).mpr ⟨h', hb⟩
    rw [he] at hin
    obtain ⟨h1, hh1⟩ := (obj_each hw).mp hin
    by_cases hba : b = a
    ·subst hba
     rw [g2] at hb
     injection hb with hb
     subst hb
     exact hk b h hh hk1
    ·rw [g3 b h1 hba hh1] at hb
     injection hb with hb
     subst hb
     exact hk b _ hh1 hk1
theorem Kn.free {S : Spc} {cs : List Cls} (hw : HWf S cs) (hk : Kn S cs) (a : Int) : Kn (Sp.freeS S a).2 cs := by
 have hno : ∀ {S1 : Spc}, S1 = S → Kn S1 cs := fun e => by rw [e]; exact hk
 cases hf : Sp.find S a with
 | none => exact hno (by unfold Sp.freeS; rw [hf])
 | some x =>
  obtain ⟨s, w⟩ := x
  by_cases hs : (s : Int) = a
  ·subst hs
   obtain ⟨_, e2, _, e4⟩ := find_free hw.wf hf
   intro b h' hb hk1
   obtain ⟨n, w', rfl, hfn, _⟩ := Ob.head_is (hw.free s) hb
   have hfS : Sp.find S n = some (n, w') := by
    rw [e4] at hfn
    split at hfn
    ·cases hfn
    ·exact hfn
   refine hk n h' ?_ hk1
   rw [← hb]
   unfold Ob.head
   rw [hfS, hfn, e2]
  ·exact hno (by unfold Sp.freeS; rw [hf]; dsimp only; rw [if_neg hs])
theorem HWf.addC {S : Spc} {cs : List Cls} (hw : HWf S cs) {n : Int} {xs : List Int} (hl : xs.length ≤ 2 ^ 20) : HWf S (Sp.addC cs (n, xs)).2.2 := by
 unfold Sp.addC
 split
 ·exact hw
 ·split
  ·exact hw
  ·exact hwf_add hw (by omega) hl
theorem Kn.addC {S : Spc} {cs : List Cls} (hk : Kn S cs) {c : Cls} : Kn S (Sp.addC cs c).2.2 := by
 unfold Sp.addC
 split
 ·exact hk
 ·split
  ·exact hk
  ·intro a h hh hk1
   obtain ⟨x, hx⟩ := hk a h hh hk1
   obtain ⟨i, hi, hx⟩ := Sp.clsAt_some hx
   refine ⟨x, ?_⟩
   have hlt := getElem?_lt hx
   unfold Sp.clsAt
   dsimp only
   rw [if_pos ⟨by omega, by simp; omega⟩, List.getElem?_append_left (by omega), show (h.c - 1).toNat = i by omega]
   exact hx
theorem same_ints_rd {A : List Asn} (s1 s2 : Slc) (xs ys : List Int) (h1 : RoS ρ s1 1 (xs.map i64)) (h2 : Rd ρ A s2 1 (ys.map i64)) (hl : xs.length < 2 ^ 62) :
  Gl.Spec ρ Tryz.prog 30 [.slice s1.a s1.n s1.c, .slice s2.a s2.n s2.c] A RB fun r M => r = decide (xs = ys) ∧ M = A := by
 refine Spec.of (fun Q w h => F.gloamingref1.SameInts.calls s1 s2 h) fun R => ?_
 unfold F.gloamingref1.SameInts
 try simp only [List.cons_append, List.nil_append]
 have n1 : s1.n = xs.length := by have := h1.1; simpa using this.symm
 have n2 : s2.n = ys.length := by have := h2.1; simpa using this.symm
 have hA : Takes (A ++ R) A R := Takes.app A R
 refine en_br (fun h => ?_) (fun h => ?_)
 ·have hne : xs ≠ ys := by rintro rfl; rw [n1, n2] at h; simp at h
  refine en_rets (x := decide (xs = ys)) ?_ ⟨rfl, rfl⟩ hA ens
  rw [decide_eq_false hne]; rfl
 ·have hle : xs.length = ys.length := by rw [n1, n2] at h; simp at h; omega
  refine en_lp (fun n u M => (fun i : Int => M = A ++ R ∧ 0 ≤ i ∧ i ≤ xs.length ∧ n = xs.length - i.toNat ∧ xs.take i.toNat = ys.take i.toNat) u.1) xs.length ?_ ?_
  ·exact ⟨rfl, by simp, by dsimp only; omega, by simp, by simp⟩
  ·rintro n ⟨(i : Int), ⟨⟩⟩ M ⟨rfl, i0, i1, rfl, ht⟩ X hX
   dsimp only at *
   refine en_br (fun h3 => ?_) (fun h3 => ?_)
   ·replace h3 : i < (s1.n : Int) := of_decide_eq_true h3
    have hi : i.toNat < xs.length := by omega
    refine en_drw (en_getRo h1 i0 (by omega) ?_)
    refine en_getRd h2 hA i0 (by omega) ?_
    refine en_br (fun h4 => ?_) (fun h4 => ?_)
    ·have hne : xs ≠ ys := by rintro rfl; simp at h4
     refine en_rets (x := decide (xs = ys)) ?_ ⟨rfl, rfl⟩ hA ens
     rw [decide_eq_false hne]; rfl
    ·have h4 : xs.getD i.toNat 0 = ys.getD i.toNat 0 := by simpa using h4
     rw [wrap64 (by omega) (by omega)]
     refine hX (xs.length - (i + 1).toNat) _ _ (by omega) ⟨rfl, by dsimp only; omega, by dsimp only; omega, rfl, ?_⟩
     dsimp only
     rw [show (i + 1).toNat = i.toNat + 1 by omega, take_succ_getD 0 hi, take_succ_getD 0 (by omega), ht, h4]
   ·replace h3 : ¬ i < (s1.n : Int) := of_decide_eq_false h3
    have he : xs = ys := by
     have := ht
     rwa [List.take_of_length_le (by omega), List.take_of_length_le (by omega)] at this
    refine en_rets (x := decide (xs = ys)) ?_ ⟨rfl, rfl⟩ hA ens
    rw [decide_eq_true he]; rfl
def addr (S : Spc) (a : Int) : Int := if 0 < (Sp.each S).length ∧ 0 ≤ a ∧ a < 64 then (Sp.each S).getD (a.toNat % (Sp.each S).length) 0 else a
structure Ask1 where
 d : Int
 k : Int
 c : Int
 n : Int
 f : Bool
 cn : Int
 cr : Slc
 at' : Int
 i : Int
 x : Int
abbrev KA : List LK := [.int .i64, .int .i64, .int .i64, .int .i64, .bool, .int .i64, .slice, .int .i64, .int .i64, .int .i64]
def Ask1.t (a : Ask1) : LTs KA := (a.d, a.k, a.c, a.n, a.f, a.cn, a.cr, a.at', a.i, a.x, ())
def Ask1.cs (a : Ask1) : List Value := vals KA a.t
theorem ask_len (a : Ask1) : (Ask1.cs a).length = 10 := rfl
def RoAsks (ρ : FR) (s : Slc) (l : List Ask1) : Prop := RoS ρ s 10 (l.flatMap Ask1.cs) ∧ ∀ j a, j < 60 → l[j]? = some a → ∃ xs : List Int, RoS ρ a.cr 1 (xs.map i64) ∧ xs.length ≤ 2 ^ 20
structure Both (S : Spc) (lc : List (Cls × Slc)) : Prop where
 hw : HWf S (csO lc)
 kn : Kn S (csO lc)
 ln : ∀ x ∈ lc, x.2.n = x.1.2.length
end Go.Proofs.YtpefngbfgjfcgaaGreat
