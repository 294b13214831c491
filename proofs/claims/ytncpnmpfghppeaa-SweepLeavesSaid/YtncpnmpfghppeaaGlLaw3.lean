/- Lists that are one; spaces that are full from the front. -/
import Derived.Test.YtncpnmpfghppeaaGlLaw2
set_option linter.unusedSimpArgs false
set_option linter.unusedVariables false
namespace Go.Proofs.Ytncpnmpfghppeaa
open Go Go.Gl
variable {ρ0 ρ : FR} {L L' : List Asn} {Post : Value → List Asn → Prop} {T : Tree}

theorem same_ints (s1 s2 : Slc) (xs ys : List Int) (h1 : RoS ρ s1 1 (xs.map i64)) (h2 : RoS ρ s2 1 (ys.map i64)) (hl : xs.length < 2 ^ 62) :
    Gl.Spec ρ Try.prog 28 [.slice s1.a s1.n s1.c, .slice s2.a s2.n s2.c] [] RB fun r M => r = decide (xs = ys) ∧ M = [] := by
  refine Spec.of (fun Q w h => F.gloamingref1.SameInts.calls s1 s2 h) fun R => ?_
  unfold F.gloamingref1.SameInts
  try simp only [List.cons_append, List.nil_append]
  have n1 : s1.n = xs.length := by have := h1.1; simpa using this.symm
  have n2 : s2.n = ys.length := by have := h2.1; simpa using this.symm
  refine en_br (fun h => ?_) (fun h => ?_)
  · have hne : xs ≠ ys := by rintro rfl; rw [n1, n2] at h; simp at h
    refine en_rets (x := decide (xs = ys)) ?_ ⟨rfl, rfl⟩ tks ens
    rw [decide_eq_false hne]; rfl
  · have hle : xs.length = ys.length := by rw [n1, n2] at h; simp at h; omega
    refine en_lp (fun n u M => (fun i : Int => M = R ∧ 0 ≤ i ∧ i ≤ xs.length ∧ n = xs.length - i.toNat ∧ xs.take i.toNat = ys.take i.toNat) u.1) xs.length ?_ ?_
    · exact ⟨rfl, by simp, by dsimp only; omega, by simp, by simp⟩
    · rintro n ⟨(i : Int), ⟨⟩⟩ M ⟨rfl, i0, i1, rfl, ht⟩ X hX
      dsimp only at *
      refine en_br (fun h3 => ?_) (fun h3 => ?_)
      · replace h3 : i < (s1.n : Int) := of_decide_eq_true h3
        have hi : i.toNat < xs.length := by omega
        refine en_drw (en_ixRo h1 i0 h3 fun a0 ha => ?_)
        refine en_ldRo (j := i.toNat) (x := xs.getD i.toNat 0) ha h1 (by rintro b o rfl; simp [fa_mk]) (getD_map hi) ?_
        refine en_ixRo h2 i0 (by omega) fun a1 ha1 => ?_
        refine en_ldRo (j := i.toNat) (x := ys.getD i.toNat 0) ha1 h2 (by rintro b o rfl; simp [fa_mk]) (getD_map (by omega)) ?_
        refine en_br (fun h4 => ?_) (fun h4 => ?_)
        · have hne : xs ≠ ys := by rintro rfl; simp at h4
          refine en_rets (x := decide (xs = ys)) ?_ ⟨rfl, rfl⟩ tks ens
          rw [decide_eq_false hne]; rfl
        · have h4 : xs.getD i.toNat 0 = ys.getD i.toNat 0 := by simpa using h4
          rw [wrap64 (by omega) (by omega)]
          refine hX (xs.length - (i + 1).toNat) _ _ (by omega) ⟨rfl, by dsimp only; omega, by dsimp only; omega, rfl, ?_⟩
          dsimp only
          rw [show (i + 1).toNat = i.toNat + 1 by omega, take_succ_getD 0 hi, take_succ_getD 0 (by omega), ht, h4]
      · replace h3 : ¬ i < (s1.n : Int) := of_decide_eq_false h3
        have he : xs = ys := by
          have := ht
          rwa [List.take_of_length_le (by omega), List.take_of_length_le (by omega)] at this
        refine en_rets (x := decide (xs = ys)) ?_ ⟨rfl, rfl⟩ tks ens
        rw [decide_eq_true he]; rfl

/-- pages are taken up to one, and none behind -/
structure Pfx (pg : List Pg) (m : Nat) : Prop where
  le : m ≤ pg.length
  used : ∀ j : Nat, j < m → pg[j]? ≠ some .free
  free : ∀ j : Nat, m ≤ j → j < pg.length → pg[j]? = some .free
theorem Pfx.new {n : Nat} (h : 1 ≤ n) : Pfx (Sp.newSpc n).pg 1 := by
  unfold Sp.newSpc
  refine ⟨by simp, fun j hj => ?_, fun j h1 h2 => ?_⟩
  · have : j = 0 := by omega
    subst this; simp
  · obtain ⟨i, rfl⟩ : ∃ i, j = i + 1 := ⟨j - 1, by omega⟩
    simp [List.getElem?_replicate] at h2 ⊢
    omega
theorem run_pfx {pg : List Pg} {m k : Nat} (h : Pfx pg m) (hk : 1 ≤ k) (hm : m + k ≤ pg.length) : Sp.run (pg.map Pg.taken) k = some m := by
  refine Sp.run_some (by simpa using hm) (Sp.clearAt_iff.mpr fun j h1 h2 => ?_) fun j hj => ?_
  · rw [taken_getD, getD_of (h.free j h1 (by omega))]; rfl
  · cases hc : Sp.clearAt (pg.map Pg.taken) j k with
    | false => rfl
    | true =>
      exfalso
      have := Sp.clearAt_iff.mp hc j (by omega) (by omega)
      rw [taken_getD] at this
      have hu := h.used j hj
      rw [of_getD (by omega : j < pg.length)] at hu
      revert this hu
      generalize pg.getD j .free = x
      cases x <;> simp [Pg.taken]
/-- so many pages are asked for at most -/
def Sp.need (w : Int) : Nat := if Sp.cls w < 0 then (Sp.pgs w).toNat else 1
theorem alloc_pfx {S : Spc} (hw : Wf S) {m : Nat} (h : Pfx S.pg m) {w : Int} (hb : Sp.blk w ≠ 0) (hm : m + Sp.need w ≤ S.pg.length) :
    (Sp.alloc S w).2.1 = 0 ∧ ∃ m', Pfx (Sp.alloc S w).2.2.pg m' ∧ m' ≤ m + Sp.need w := by
  have key : (Sp.place S.pg w).2.1 = 0 ∧ ∃ m', Pfx (Sp.place S.pg w).2.2 m' ∧ m' ≤ m + Sp.need w := by
    rcases Sp.place_cases hw hb with e | ⟨i, k, h1, h2, h3, h4, h5, h6, h7, e⟩ | ⟨c, i, k, l, h1, h2, h3, h4, h5, h6, h7, h8, e⟩
    · exfalso
      by_cases hc : Sp.cls w < 0
      · have hn : Sp.need w = (Sp.pgs w).toNat := by unfold Sp.need; rw [if_pos hc]
        obtain ⟨k1, k2, _⟩ := Sp.pgs_pos hb hc
        unfold Sp.place at e
        rw [if_pos hc, run_pfx h (by omega) (by omega)] at e
        have := congrArg (fun x => x.2.1) e
        simp at this
      · have hn : Sp.need w = 1 := by unfold Sp.need; rw [if_neg hc]
        unfold Sp.place at e
        rw [if_neg hc] at e
        split at e
        · have := congrArg (fun x => x.2.1) e
          simp [Sp.placeS] at this
        · rw [run_pfx h (by omega) (by omega)] at e
          have := congrArg (fun x => x.2.1) e
          simp [Sp.placeS] at this
    · rw [e]
      have hn : Sp.need w = k := by unfold Sp.need; rw [if_pos h1, h2, Int.toNat_natCast]
      refine ⟨rfl, m + k, ?_, by omega⟩
      have him : i = m := by
        have hr := run_pfx h h3 (by omega : m + k ≤ S.pg.length)
        unfold Sp.place at e
        rw [if_pos h1, h2, Int.toNat_natCast, hr] at e
        have := congrArg (fun x => x.1) e
        dsimp only at this
        omega
      subst him
      dsimp only
      refine ⟨by rw [putL_len]; omega, fun j hj => ?_, fun j j1 j2 => ?_⟩
      · by_cases hj2 : i ≤ j ∧ j < i + k
        · rw [putL_get, if_pos (by omega)]
          split
          · simp
          · rw [if_pos (by omega)]; simp
        · rw [putL_off h3 hj2]; exact h.used j (by omega)
      · rw [putL_len] at j2
        rw [putL_off h3 (by omega)]; exact h.free j (by omega) j2
    · rw [e]
      have hn : Sp.need w = 1 := by unfold Sp.need; rw [if_neg (by omega)]
      have him : i ≤ m := by
        rcases h5 with h5 | ⟨_, _, hr⟩
        · rcases Nat.lt_or_ge i m with c | c
          · omega
          · rw [h.free i c h4] at h5; cases h5
        · rw [run_pfx h (by omega) (by omega)] at hr
          injection hr with hr; omega
      refine ⟨rfl, max m (i + 1), ?_, by omega⟩
      dsimp only
      refine ⟨by rw [List.length_set]; omega, fun j hj => ?_, fun j j1 j2 => ?_⟩
      · rw [set_get h4]
        split
        · simp
        · exact h.used j (by omega)
      · rw [List.length_set] at j2
        rw [set_get h4, if_neg (by omega)]
        exact h.free j (by omega) j2
  unfold Sp.alloc
  rw [if_neg hb, if_pos key.1]
  exact ⟨rfl, key.2⟩

end Go.Proofs.Ytncpnmpfghppeaa
