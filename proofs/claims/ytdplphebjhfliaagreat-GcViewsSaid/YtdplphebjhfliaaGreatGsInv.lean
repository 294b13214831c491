/- What stays true of a runtime, whatever is done. -/
import Derived.Test.YtdplphebjhfliaaGreatGsBo
set_option linter.unusedSimpArgs false
set_option linter.unusedVariables false
namespace Go.Proofs.YtdplphebjhfliaaGreat
open Go Go.Gl
theorem isR_putA {S : Spc} {cs : List Cls} (hw : HWf S cs) {a i x : Int} (b : Int) : Qu.isR (Ob.put S a i x).2 b = Qu.isR S b := by unfold Qu.isR; rw [put_head hw]
theorem get_put {S : Spc} {cs : List Cls} (hw : HWf S cs) {a i x b j : Int} {hd : Hd} (hb : Ob.head S b = some hd) (h0 : 0 ≤ j) (h1 : j < hd.n) : Ob.get (Ob.put S a i x).2 b j = if b = a ∧ j = i then (x, 0) else Ob.get S b j := by
 by_cases g : (Ob.fieldAt S a i).2 = 0
 ·obtain ⟨ha, hha, i0, i1, _⟩ := Ob.fieldAt_ok hw g
  exact ((Ob.put_keep hw (x := x) hha i0 i1).2 _ _ hb).2 j h0 h1
 ·have e : (Ob.put S a i x).2 = S := by unfold Ob.put; rw [if_pos g]
  rw [e, if_neg]
  rintro ⟨rfl, rfl⟩
  exact g (by unfold Ob.fieldAt; rw [hb]; dsimp only; rw [if_neg (by rintro (h | h) <;> omega)])
theorem get_putR {S : Spc} {cs : List Cls} (hw : HWf S cs) {a i x b j : Int} (hr : Qu.isR S b = true) (h0 : 0 ≤ j) (h5 : j < 5) : Ob.get (Ob.put S a i x).2 b j = if b = a ∧ j = i then (x, 0) else Ob.get S b j := by
 obtain ⟨hd, hh, hk⟩ := isR_head hr
 have := isR_n hw hh hk
 exact get_put hw hh h0 (by omega)
theorem lk_mono {S S' : Spc} : ∀ {r : List Int}, (∀ b ∈ r, Ob.get S' b 2 = Ob.get S b 2) → Qu.Lk S r → Qu.Lk S' r
 | [], _, _ => trivial
 | a :: r, h, H => ⟨H.1, by rw [h a (.head _)]; exact H.2.1, lk_mono (fun b hb => h b (.tail _ hb)) H.2.2⟩
theorem flat_nd {rows : List (List Int)} (h : rows.flatten.Nodup) {i : Nat} (hi : i < rows.length) : rows[i].Nodup := by
 unfold List.Nodup at h
 rw [List.pairwise_flatten] at h
 exact h.1 _ (List.getElem_mem hi)
theorem flat_mem {rows : List (List Int)} {i : Nat} (hi : i < rows.length) {x : Int} (h : x ∈ rows[i]) : x ∈ rows.flatten := List.mem_flatten.mpr ⟨_, List.getElem_mem hi, h⟩
structure QI (S : Spc) (rows : List (List Int)) : Prop where
 few : rows.length ≤ 8
 lk : ∀ r ∈ rows, Qu.Lk S r
 qr : ∀ a ∈ rows.flatten, Qu.isR S a = true ∧ (Ob.get S a 1).1 = -1
 nd : rows.flatten.Nodup
namespace QI
variable {S S' : Spc} {cs : List Cls} {rows : List (List Int)}
theorem mono (H : QI S rows) (h : ∀ a ∈ rows.flatten, Qu.isR S' a = true ∧ (Ob.get S' a 1).1 = -1 ∧ Ob.get S' a 2 = Ob.get S a 2) : QI S' rows :=
 ⟨H.few, fun r hr => lk_mono (fun b hb => (h b (List.mem_flatten.mpr ⟨r, hr, hb⟩)).2.2) (H.lk r hr), fun a ha => ⟨(h a ha).1, (h a ha).2.1⟩, H.nd⟩
theorem open_ (H : QI S rows) (h : rows.length < 8) : QI S (rows ++ [[]]) := by
 have e : (rows ++ [[]]).flatten = rows.flatten := by simp
 refine ⟨by simp; omega, fun r hr => ?_, by rw [e]; exact H.qr, by rw [e]; exact H.nd⟩
 rcases List.mem_append.mp hr with hr | hr
 ·exact H.lk r hr
 ·rw [List.mem_singleton] at hr; subst hr; trivial
end QI
theorem nodup_le : ∀ {l m : List Int}, l.Nodup → (∀ a ∈ l, a ∈ m) → l.length ≤ m.length
 | [], _, _, _ => Nat.zero_le _
 | a :: l, m, hn, h => by
  obtain ⟨n1, n2⟩ := List.nodup_cons.mp hn
  have hm := h a (.head _)
  have := nodup_le (l := l) (m := m.erase a) n2 fun b hb => by
   refine (List.mem_erase_of_ne (fun e => n1 (by rw [← e]; exact hb))).mpr (h b (.tail _ hb))
  rw [List.length_erase_of_mem hm] at this
  have := List.length_pos_of_mem hm
  rw [List.length_cons]; omega
theorem QI.rowsOk {S : Spc} {cs : List Cls} {rows : List (List Int)} (hw : HWf S cs) (H : QI S rows) : RowsOk S rows := by
 refine ⟨H.few, H.lk, fun r hr => ?_⟩
 obtain ⟨i, hi, rfl⟩ := List.mem_iff_getElem.mp hr
 have := nodup_le (flat_nd H.nd hi) (m := Sp.each S) fun a ha => by
  obtain ⟨hd, hh, _⟩ := isR_head (H.qr a (flat_mem hi ha)).1
  exact (obj_each hw).mpr ⟨hd, hh⟩
 have := Sp.each_len hw.wf
 omega
structure RI (S : Spc) (ser : Int) : Prop where
 q : ∀ a, Qu.isR S a = true → (Ob.get S a 1).1 < 2 ^ 62
 t : ∀ a, Qu.isR S a = true → (Ob.get S a 3).1 < 9223372036854775808
 k : ∀ a, Qu.isR S a = true → 1 ≤ (Ob.get S a 4).1 ∧ (Ob.get S a 4).1 ≤ ser
 inj : ∀ a b, Qu.isR S a = true → Qu.isR S b = true → (Ob.get S a 4).1 = (Ob.get S b 4).1 → a = b
namespace RI
variable {S S' : Spc} {cs : List Cls} {ser : Int}
theorem mono (H : RI S ser) (h : ∀ a, Qu.isR S' a = true → Qu.isR S a = true ∧ (Ob.get S' a 1).1 < 2 ^ 62 ∧ (Ob.get S' a 3).1 < 9223372036854775808 ∧ Ob.get S' a 4 = Ob.get S a 4) : RI S' ser :=
 ⟨fun a ha => (h a ha).2.1, fun a ha => (h a ha).2.2.1, fun a ha => by rw [(h a ha).2.2.2]; exact H.k a (h a ha).1,
  fun a b ha hb e => H.inj a b (h a ha).1 (h b hb).1 (by rw [← (h a ha).2.2.2, ← (h b hb).2.2.2]; exact e)⟩
theorem qb (H : RI S ser) : QB S := H.q
theorem st (hw : HWf S cs) (H : RI S ser) : ∀ r ∈ refsOf S, r.2.2.2.2.1 < 9223372036854775808 := fun r hr => by
 obtain ⟨h, hh, hk, e⟩ := (mem_refsOf hw).mp hr
 have : Qu.isR S r.1 = true := by unfold Qu.isR; rw [hh]; simpa using hk
 rw [e]; exact H.t r.1 this
end RI
end Go.Proofs.YtdplphebjhfliaaGreat
