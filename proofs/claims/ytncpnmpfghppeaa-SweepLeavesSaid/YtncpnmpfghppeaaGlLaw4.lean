/- All blocks, plainly. -/
import Derived.Test.YtncpnmpfghppeaaGlLaw3
set_option linter.unusedSimpArgs false
set_option linter.unusedVariables false
namespace Go.Proofs.Ytncpnmpfghppeaa
open Go Go.Gl

theorem mem_each_of_find {S : Spc} (hw : Wf S) {n w : Nat} (h : Sp.find S n = some (n, w)) : (n : Int) ∈ Sp.each S := by
  obtain ⟨hn, hcase⟩ := Sp.find_at hw h rfl
  refine Sp.mem_each.mpr ?_
  rcases hcase with ⟨c, l, k, h1, h2, h3, h4, h5, h6, h7⟩ | ⟨k, h1, h2, h3⟩
  · refine ⟨n / 64, getElem?_lt h1, ?_⟩
    unfold Sp.gE
    rw [getD_of h1]
    have hk : k < l.length := by
      rcases Nat.lt_or_ge k l.length with c | c
      · exact c
      · rw [List.getD_eq_getElem?_getD, List.getElem?_eq_none c] at h5; cases h5
    simp only [Sp.at1, List.mem_filterMap, List.mem_range]
    refine ⟨k, hk, ?_⟩
    rw [if_pos h5, ← h6]
  · refine ⟨n / 64, getElem?_lt h1, ?_⟩
    unfold Sp.gE
    rw [getD_of h1]
    simp only [Sp.at1, List.mem_singleton]
    omega
theorem mem_each {S : Spc} (hw : Wf S) {a : Int} : a ∈ Sp.each S ↔ ∃ n w : Nat, a = n ∧ Sp.find S n = some (n, w) := by
  constructor
  · intro h
    obtain ⟨n, h1, _, w, h2, _⟩ := Sp.each_find hw h
    exact ⟨n, w, h1, h2⟩
  · rintro ⟨n, w, rfl, h⟩
    exact mem_each_of_find hw h
theorem each_nodup {S : Spc} (hw : Wf S) : (Sp.each S).Nodup := (Sp.each_sorted hw).imp fun h => by omega
/-- all blocks are told by what is found -/
theorem each_eq {S S' : Spc} (hw : Wf S) (hw' : Wf S') (h : ∀ n w : Nat, Sp.find S n = some (n, w) ↔ Sp.find S' n = some (n, w)) : Sp.each S = Sp.each S' := by
  have hp : (Sp.each S).Perm (Sp.each S') := by
    rw [List.perm_ext_iff_of_nodup (each_nodup hw) (each_nodup hw')]
    intro a
    rw [mem_each hw, mem_each hw']
    constructor
    · rintro ⟨n, w, e, hf⟩; exact ⟨n, w, e, (h n w).mp hf⟩
    · rintro ⟨n, w, e, hf⟩; exact ⟨n, w, e, (h n w).mpr hf⟩
  have s1 : Sp.sort (Sp.each S) = Sp.each S := Sp.sort_id ((Sp.each_sorted hw).imp fun h => by omega)
  have s2 : Sp.sort (Sp.each S') = Sp.each S' := Sp.sort_id ((Sp.each_sorted hw').imp fun h => by omega)
  rw [← s1, ← s2, Sp.sort_perm hp]
theorem each_make {S : Spc} {cs : List Cls} (hw : HWf S cs) {h : Hd} (h0 : (Ob.make S cs h).2.1 = 0) : (Sp.each (Ob.make S cs h).2.2).Perm ((Ob.make S cs h).1 :: Sp.each S) := by
  obtain ⟨a, n, e1, e2, e3, e4, e5, e6, e7, e8, e9⟩ := Ob.make_ok hw h0
  have hb := Sp.mayH_is (Ob.may_ok e2).1
  rw [List.perm_ext_iff_of_nodup (each_nodup e9.wf)]
  · intro x
    rw [mem_each e9.wf, List.mem_cons, mem_each hw.wf, e1]
    constructor
    · rintro ⟨m, w, rfl, hf⟩
      rw [e7] at hf
      by_cases hm : a ≤ m ∧ m < a + n
      · rw [if_pos hm] at hf
        injection hf with hf; injection hf with f1 f2
        exact .inl (by omega)
      · rw [if_neg hm] at hf
        exact .inr ⟨m, w, rfl, hf⟩
    · rintro (rfl | ⟨m, w, rfl, hf⟩)
      · exact ⟨a, n, rfl, by rw [e7, if_pos ⟨by omega, by omega⟩]⟩
      · refine ⟨m, w, rfl, ?_⟩
        rw [e7]
        have hm : ¬ (a ≤ m ∧ m < a + n) := fun hc => by rw [e8 m hc.1 hc.2] at hf; cases hf
        rw [if_neg hm]; exact hf
  · rw [List.nodup_cons]
    refine ⟨fun hx => ?_, each_nodup hw.wf⟩
    obtain ⟨m, w, e, hf⟩ := (mem_each hw.wf).mp hx
    rw [e1] at e
    have : m = a := by omega
    subst this
    rw [e8 m (by omega) (by omega)] at hf; cases hf
theorem objs_len (S : Spc) : (Ob.objs S).length = (Sp.each S).length := by unfold Ob.objs; rw [List.length_map]
theorem make_len {S : Spc} {cs : List Cls} (hw : HWf S cs) {h : Hd} (h0 : (Ob.make S cs h).2.1 = 0) : (Sp.each (Ob.make S cs h).2.2).length = (Sp.each S).length + 1 := by
  rw [(each_make hw h0).length_eq]; rfl
theorem put_each {S : Spc} {cs : List Cls} (hw : HWf S cs) (a i x : Int) : Sp.each (Ob.put S a i x).2 = Sp.each S := by
  obtain ⟨ws', e, hl⟩ := put_pg S a i x
  rw [e]; rfl

/-- a making that has room -/
theorem make_pfx {S : Spc} {cs : List Cls} (hw : HWf S cs) {m : Nat} (hp : Pfx S.pg m) {h : Hd} (hm : Ob.may cs h = 0) (hr : m + Sp.need (h.n + 1) ≤ S.pg.length) :
    (Ob.make S cs h).2.1 = 0 ∧ (∃ m', Pfx (Ob.make S cs h).2.2.pg m' ∧ m' ≤ m + Sp.need (h.n + 1)) ∧ (Ob.make S cs h).2.2.pg.length = S.pg.length := by
  have hb := Sp.mayH_is (Ob.may_ok hm).1
  have hb0 : Sp.blk (h.n + 1) ≠ 0 := by
    intro e
    unfold Sp.blk at e
    rcases Sp.cls_cases (h.n + 1) with ⟨h1, c⟩ | ⟨h1, h2, c⟩ | ⟨h1, h2, c⟩ | ⟨h1, h2, c⟩ | ⟨h1, h2, c⟩ | ⟨h1, h2, c⟩ | ⟨h1, c⟩ <;> rw [c] at e
    · omega
    · rw [if_pos (by decide)] at e; revert e; decide
    · rw [if_pos (by decide)] at e; revert e; decide
    · rw [if_pos (by decide)] at e; revert e; decide
    · rw [if_pos (by decide)] at e; revert e; decide
    · rw [if_pos (by decide)] at e; revert e; decide
    · rw [if_neg (by decide)] at e
      unfold Sp.pgs at e
      rw [if_neg (by rw [c]; rintro (h | h | h) <;> omega)] at e
      omega
  obtain ⟨h1, m', h2, h3⟩ := alloc_pfx hw.wf hp hb0 hr
  have hmk : (Ob.make S cs h).2.1 = 0 ∧ (Ob.make S cs h).2.2.pg = (Sp.alloc S (h.n + 1)).2.2.pg := by
    unfold Ob.make
    rw [if_neg (by simp [hm]), if_neg (by simp [h1])]
    exact ⟨rfl, rfl⟩
  rw [hmk.2]
  refine ⟨hmk.1, ⟨m', h2, h3⟩, ?_⟩
  have l1 := (Sp.alloc_wf hw.wf (h.n + 1)).len
  obtain ⟨_, _, _, _, _, _, _, _, l2⟩ := Sp.alloc_ok hw.wf h1
  have l3 := hw.wf.len
  omega

end Go.Proofs.Ytncpnmpfghppeaa
