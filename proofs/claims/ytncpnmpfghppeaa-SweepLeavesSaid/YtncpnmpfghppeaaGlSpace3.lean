/- Spaces: first, place, Alloc. -/
import Derived.Test.YtncpnmpfghppeaaGlSpace2
set_option linter.unusedSimpArgs false
set_option linter.unusedVariables false
namespace Go.Proofs.Ytncpnmpfghppeaa
open Go Go.Gl
variable {ρ0 ρ : FR} {L L' : List Asn} {Post : Value → List Asn → Prop} {T : Tree}

theorem Sp.openP_is {pg : List Pg} {c p : Nat} (h : Sp.openP pg c = some p) : ∃ l, pg[p]? = some (.small c l) ∧ l.count true ≠ l.length := by
  have := List.find?_some h
  change Sp.openQ pg c p = true at this
  unfold Sp.openQ at this
  split at this
  · rename_i c' l hp
    simp at this
    exact ⟨l, by rw [hp, this.1], by simpa using this.2⟩
  · cases this
theorem bits_ext {a b : List Bool} (hl : a.length = b.length) (h : ∀ j, j < a.length → a.getD j false = b.getD j false) : a = b := by
  apply List.ext_getElem hl
  intro j h1 h2
  have := h j h1
  rw [List.getD_eq_getElem?_getD, List.getD_eq_getElem?_getD, List.getElem?_eq_getElem h1, List.getElem?_eq_getElem h2] at this
  exact this
theorem taken_getD {pg : List Pg} {j : Nat} : (pg.map Pg.taken).getD j false = (pg.getD j .free).taken := by
  rw [List.getD_eq_getElem?_getD, List.getD_eq_getElem?_getD, List.getElem?_map]
  cases pg[j]? <;> rfl
theorem run_free {pg : List Pg} {k i : Nat} (h : Sp.run (pg.map Pg.taken) k = some i) : i + k ≤ pg.length ∧ ∀ j : Nat, i ≤ j → j < i + k → pg[j]? = some .free := by
  obtain ⟨h1, h2, _⟩ := Sp.run_is h
  rw [List.length_map] at h1
  refine ⟨h1, fun j g1 g2 => ?_⟩
  have := Sp.clearAt_iff.mp h2 j g1 g2
  rw [taken_getD, List.getD_eq_getElem?_getD] at this
  have hj : j < pg.length := by omega
  rw [List.getElem?_eq_getElem hj] at this ⊢
  simp only [Option.getD_some] at this
  revert this
  generalize pg[j] = x
  cases x <;> simp [Pg.taken]
theorem taken_set {pg : List Pg} {i : Nat} {x : Pg} (hi : i < pg.length) : (pg.set i x).map Pg.taken = Sp.setR (pg.map Pg.taken) x.taken i 1 := by
  apply bits_ext
  · rw [Sp.setR_len]; simp
  · intro j hj
    simp only [List.length_map, List.length_set] at hj
    rw [Sp.setR_get (by simpa using hj), taken_getD, taken_getD]
    by_cases hij : i = j
    · subst hij
      rw [if_pos ⟨by omega, by omega⟩, List.getD_eq_getElem?_getD]; simp [hi]
    · rw [if_neg (by omega), List.getD_eq_getElem?_getD, List.getElem?_set_ne hij, List.getD_eq_getElem?_getD]
theorem putL_get {pg : List Pg} {i k j : Nat} : (Sp.putL pg i k)[j]? = if j < pg.length then some (if j = i then Pg.head k else if i < j ∧ j < i + k then .tail else pg.getD j .free) else none := by
  unfold Sp.putL
  rw [List.getElem?_mapIdx]
  by_cases hj : j < pg.length
  · rw [if_pos hj, List.getElem?_eq_getElem hj, List.getD_eq_getElem?_getD, List.getElem?_eq_getElem hj]; rfl
  · rw [if_neg hj, List.getElem?_eq_none (by omega)]; rfl
theorem freeL_get {pg : List Pg} {i k j : Nat} : (Sp.freeL pg i k)[j]? = if j < pg.length then some (if i ≤ j ∧ j < i + k then Pg.free else pg.getD j .free) else none := by
  unfold Sp.freeL
  rw [List.getElem?_mapIdx]
  by_cases hj : j < pg.length
  · rw [if_pos hj, List.getElem?_eq_getElem hj, List.getD_eq_getElem?_getD, List.getElem?_eq_getElem hj]; rfl
  · rw [if_neg hj, List.getElem?_eq_none (by omega)]; rfl
theorem putL_len {pg : List Pg} {i k : Nat} : (Sp.putL pg i k).length = pg.length := by simp [Sp.putL]
theorem freeL_len {pg : List Pg} {i k : Nat} : (Sp.freeL pg i k).length = pg.length := by simp [Sp.freeL]
theorem getD_of {pg : List Pg} {j : Nat} {x : Pg} (h : pg[j]? = some x) : pg.getD j .free = x := by rw [List.getD_eq_getElem?_getD, h]; rfl
theorem of_getD {pg : List Pg} {j : Nat} (h : j < pg.length) : pg[j]? = some (pg.getD j .free) := by rw [List.getD_eq_getElem?_getD, List.getElem?_eq_getElem h]; rfl
theorem taken_putL {pg : List Pg} {i k : Nat} (hk : 1 ≤ k) : (Sp.putL pg i k).map Pg.taken = Sp.setR (pg.map Pg.taken) true i k := by
  apply bits_ext
  · rw [Sp.setR_len]; simp [Sp.putL]
  · intro j hj
    have hj : j < pg.length := by simpa [Sp.putL] using hj
    rw [Sp.setR_get (by simpa using hj), taken_getD, taken_getD]
    rw [List.getD_eq_getElem?_getD, putL_get, if_pos hj]
    by_cases h1 : j = i
    · subst h1; rw [if_pos rfl, if_pos ⟨by omega, by omega⟩]; rfl
    · rw [if_neg h1]
      by_cases h2 : i < j ∧ j < i + k
      · rw [if_pos h2, if_pos ⟨by omega, by omega⟩]; rfl
      · rw [if_neg h2, if_neg (by omega)]; rfl
theorem taken_freeL {pg : List Pg} {i k : Nat} : (Sp.freeL pg i k).map Pg.taken = Sp.setR (pg.map Pg.taken) false i k := by
  apply bits_ext
  · rw [Sp.setR_len]; simp [Sp.freeL]
  · intro j hj
    have hj : j < pg.length := by simpa [Sp.freeL] using hj
    rw [Sp.setR_get (by simpa using hj), taken_getD, taken_getD]
    rw [List.getD_eq_getElem?_getD, freeL_get, if_pos hj]
    by_cases h2 : i ≤ j ∧ j < i + k
    · rw [if_pos h2, if_pos h2]; rfl
    · rw [if_neg h2, if_neg h2]; rfl

theorem heads_set {pg : List Pg} {i : Nat} {x : Pg} (h0 : ∀ k, pg[i]? ≠ some (.head k)) (h1 : ∀ k, x ≠ .head k) (j : Nat) (k : Nat) : pg[j]? = some (.head k) ↔ (pg.set i x)[j]? = some (.head k) := by
  by_cases hij : i = j
  · subst hij
    rw [List.getElem?_set]
    constructor
    · intro h; exact absurd h (h0 k)
    · intro h; simp at h; exact absurd h.2 (h1 k)
  · rw [List.getElem?_set_ne hij]

theorem space_first (p : Nat) (S : Spc) (hw : Wf S) (c : Nat) (hc : c < 5) : Gl.Spec ρ Try.prog 82 [.pointer (some ⟨p, 0, none⟩), i64 c] [SpaceA p S] P2
    fun r M => (∃ i, Sp.openP S.pg c = some i ∧ r = ((i : Int), (0 : Int), ()) ∧ M = [SpaceA p S]) ∨
      (∃ i, Sp.openP S.pg c = none ∧ Sp.run (S.pg.map Pg.taken) 1 = some i ∧ r = ((i : Int), (0 : Int), ()) ∧ M = [SpaceA p ⟨S.ws, S.pg.set i (.small c (List.replicate (64 / Sp.sz c) false))⟩]) ∨
      (Sp.openP S.pg c = none ∧ Sp.run (S.pg.map Pg.taken) 1 = none ∧ r = ((0 : Int), (3 : Int), ()) ∧ M = [SpaceA p S]) := by
  have hmost := hw.most
  refine Spec.of (fun Q w h => F.space.Space.first.calls (some ⟨p, 0, none⟩) c h) fun R => ?_
  unfold F.space.Space.first
  try simp only [List.cons_append, List.nil_append]
  refine en_call (space_open p S hw c hc) tks ?_
  rintro x M ⟨rfl, rfl⟩
  try simp only [List.cons_append, List.nil_append]
  cases ho : Sp.openP S.pg c with
  | some i =>
    refine en_brt rfl ?_
    exact en_rets (x := ((i : Int), (0 : Int), ())) rfl (.inl ⟨i, rfl, rfl, rfl⟩) tks ens
  | none =>
    refine en_brf rfl (en_nn (SpaceA.op tk fun pa pp ms ml ls ll hS hL nS nL => ?_))
    refine en_ld (k := .ptr) (x := some ⟨pp, 0, none⟩) (by rw [fa_mk]) tk rfl ?_
    refine en_call (pages_take pp (S.pg.map Pg.taken) 1 (by omega) (by omega) (by simpa using hmost)) tks ?_
    rintro x M (⟨hr, rfl, rfl⟩ | ⟨i, hr, rfl, rfl⟩)
    · try simp only [List.cons_append, List.nil_append]
      refine en_brt rfl ?_
      refine Tr.close tks (SpaceA.cl (p := p) (pa := pa) (pp := pp) (ms := ms) (ml := ml) hS hL) ?_
      exact en_rets (x := ((0 : Int), (3 : Int), ())) rfl (.inr (.inr ⟨by first | rfl | trivial, hr, rfl, rfl⟩)) tks ens
    · try simp only [List.cons_append, List.nil_append]
      obtain ⟨hi, hfree⟩ := run_free hr
      have hfi := hfree i (by omega) (by omega)
      refine en_brf rfl ?_
      refine en_call (block_new c hc) tks ?_
      rintro x M ⟨q, rfl, rfl⟩
      try simp only [List.cons_append, List.nil_append]
      refine en_brf rfl (en_nn ?_)
      refine en_ld (k := .map) (x := some ms) (by rw [fa_mk]) tk rfl ?_
      refine en_upd (f := fS) (a := ((q, c, List.replicate (64 / Sp.sz c) false) : Ent)) uMS uI rfl tk ?_
      have hnone : aget (i : Int) ls = none := hS.none fun c' l' h => by rw [hfi] at h; cases h
      have hset := hS.set nS (p := i) (c := c) (q := q) (l := List.replicate (64 / Sp.sz c) false) (by omega)
      rw [aset_new hnone] at hset ⊢
      refine Tr.imp (A := star (ls.map PgA)) (A' := star ((ls ++ ([] : List (Int × Ent))).map PgA)) tk (by simp) ?_
      refine Tr.close (M := [PageA q (List.replicate (64 / Sp.sz c) false) (Sp.sz c), star ((ls ++ ([] : List (Int × Ent))).map PgA)]) tks (pg_close (i : Int) (q := q) (c := c) (l := List.replicate (64 / Sp.sz c) false)) ?_
      rw [show Sp.setR (S.pg.map Pg.taken) true i 1 = (S.pg.set i (.small c (List.replicate (64 / Sp.sz c) false))).map Pg.taken from (taken_set (x := .small c (List.replicate (64 / Sp.sz c) false)) (by omega)).symm]
      have hL' : Larges (S.pg.set i (.small c (List.replicate (64 / Sp.sz c) false))) ll := hL.same (heads_set (fun k h => by rw [hfi] at h; cases h) (fun k h => by cases h))
      refine Tr.close tks (SpaceA.cl (p := p) (pa := pa) (pp := pp) (ms := ms) (ml := ml) (S := ⟨S.ws, S.pg.set i (.small c (List.replicate (64 / Sp.sz c) false))⟩) hset hL') ?_
      exact en_rets (x := ((i : Int), (0 : Int), ())) rfl (.inr (.inl ⟨i, by first | rfl | trivial, hr, rfl, rfl⟩)) tks ens

end Go.Proofs.Ytncpnmpfghppeaa
