/- Spaces: Alloc. -/
import Derived.Test.YtncpnmpfghppeaaGlSpace4
set_option linter.unusedSimpArgs false
set_option linter.unusedVariables false
namespace Go.Proofs.Ytncpnmpfghppeaa
open Go Go.Gl
variable {ρ0 ρ : FR} {L L' : List Asn} {Post : Value → List Asn → Prop} {T : Tree}

/-- a page has room: a small one with blocks, or none yet -/
def Sp.hasS (pg : List Pg) (i c : Nat) (l : List Bool) : Prop := pg[i]? = some (.small c l) ∨ (pg[i]? = some .free ∧ l = List.replicate (64 / Sp.sz c) false ∧ Sp.run (pg.map Pg.taken) 1 = some i)

theorem Sp.place_cases {S : Spc} (hw : Wf S) {w : Int} (hb : Sp.blk w ≠ 0) :
    Sp.place S.pg w = (0, 3, S.pg) ∨
    (∃ i k : Nat, Sp.cls w < 0 ∧ Sp.pgs w = k ∧ 1 ≤ k ∧ k ≤ 16 ∧ Sp.blk w = ((k * 64 : Nat) : Int) ∧ i + k ≤ S.pg.length ∧ (∀ j : Nat, i ≤ j → j < i + k → S.pg[j]? = some .free) ∧ Sp.place S.pg w = (((i * 64 : Nat) : Int), 0, Sp.putL S.pg i k)) ∨
    (∃ (c i k : Nat) (l : List Bool), Sp.cls w = c ∧ c < 5 ∧ Sp.blk w = (Sp.sz c : Int) ∧ i < S.pg.length ∧ Sp.hasS S.pg i c l ∧ l.length = 64 / Sp.sz c ∧ k < l.length ∧ l.getD k false = false ∧
      Sp.place S.pg w = (((i * 64 + k * Sp.sz c : Nat) : Int), 0, S.pg.set i (.small c (l.set k true)))) := by
  by_cases h : Sp.cls w < 0
  · obtain ⟨k1, k2, k3⟩ := Sp.pgs_pos hb h
    obtain ⟨k, hk⟩ : ∃ k : Nat, Sp.pgs w = k := ⟨(Sp.pgs w).toNat, by omega⟩
    have hpl : Sp.place S.pg w = (match Sp.run (S.pg.map Pg.taken) k with | some p => (((p * 64 : Nat) : Int), 0, Sp.putL S.pg p k) | none => (0, 3, S.pg)) := by
      unfold Sp.place; rw [if_pos h, hk, Int.toNat_natCast]; rfl
    cases hr : Sp.run (S.pg.map Pg.taken) k with
    | none => rw [hr] at hpl; exact .inl hpl
    | some i =>
      rw [hr] at hpl
      obtain ⟨hi, hfree⟩ := run_free hr
      exact .inr (.inl ⟨i, k, h, hk, by omega, by omega, by omega, hi, hfree, hpl⟩)
  · have hcc := Sp.cls_cases w
    obtain ⟨c, hc⟩ : ∃ c : Nat, Sp.cls w = c := ⟨(Sp.cls w).toNat, by omega⟩
    have hc5 : c < 5 := by omega
    have hz := Sp.sz_cases hc5
    have hblk : Sp.blk w = (Sp.sz c : Int) := by unfold Sp.blk; rw [if_pos (by omega), hc, Int.toNat_natCast, Sp.sz_get hc5]
    have h32 : 0 < 64 / Sp.sz c := by rcases hz with ⟨_, e⟩ | ⟨_, e⟩ | ⟨_, e⟩ | ⟨_, e⟩ | ⟨_, e⟩ <;> rw [e] <;> decide
    have hpl : Sp.place S.pg w = (match Sp.openP S.pg c with
      | some p => Sp.placeS S.pg p c (Sp.blocks S.pg p)
      | none => (match Sp.run (S.pg.map Pg.taken) 1 with
        | some p => Sp.placeS S.pg p c (List.replicate (64 / Sp.sz c) false)
        | none => (0, 3, S.pg))) := by unfold Sp.place; rw [if_neg h, hc, Int.toNat_natCast]; rfl
    cases ho : Sp.openP S.pg c with
    | some i =>
      rw [ho] at hpl
      obtain ⟨l, hp, hcnt⟩ := Sp.openP_is ho
      obtain ⟨k, g1, g2, g3⟩ := next_of_count hcnt
      have hbl : Sp.blocks S.pg i = l := by unfold Sp.blocks; rw [hp]
      refine .inr (.inr ⟨c, i, k, l, hc, hc5, hblk, getElem?_lt hp, .inl hp, (hw.small _ _ _ hp).2, g2, g3, ?_⟩)
      rw [hpl]; dsimp only
      rw [hbl]; unfold Sp.placeS; rw [g1, Int.toNat_natCast]
    | none =>
      rw [ho] at hpl
      cases hr : Sp.run (S.pg.map Pg.taken) 1 with
      | none => rw [hr] at hpl; exact .inl hpl
      | some i =>
        rw [hr] at hpl
        obtain ⟨hi, hfree⟩ := run_free hr
        obtain ⟨k, g1, g2, g3⟩ := next_rep (n := 64 / Sp.sz c) h32
        refine .inr (.inr ⟨c, i, k, List.replicate (64 / Sp.sz c) false, hc, hc5, hblk, by omega, .inr ⟨hfree i (by omega) (by omega), rfl, hr⟩, by simp, g2, g3, ?_⟩)
        rw [hpl]; dsimp only
        unfold Sp.placeS; rw [g1, Int.toNat_natCast]

theorem sz_fit {c k n : Nat} (hc : c < 5) (hk : k < n) (hn : n = 64 / Sp.sz c) : k * Sp.sz c + Sp.sz c ≤ 64 ∧ 2 ≤ Sp.sz c ∧ Sp.sz c ≤ 32 := by
  have hz := Sp.sz_cases hc
  subst hn
  rcases hz with ⟨_, e⟩ | ⟨_, e⟩ | ⟨_, e⟩ | ⟨_, e⟩ | ⟨_, e⟩ <;> rw [e] at hk ⊢ <;> omega

theorem Sp.place_fit {S : Spc} (hw : Wf S) {w : Int} (hb : Sp.blk w ≠ 0) : Sp.place S.pg w = (0, 3, S.pg) ∨
    ((Sp.place S.pg w).2.1 = 0 ∧ ∃ a n : Nat, (Sp.place S.pg w).1 = a ∧ Sp.blk w = n ∧ 2 ≤ n ∧ n ≤ 1024 ∧ a + n ≤ S.ws.length) := by
  have hl := hw.len
  rcases Sp.place_cases hw hb with h | ⟨i, k, _, _, h1, h2, h3, h4, _, h⟩ | ⟨c, i, k, l, _, h1, h2, h3, _, h5, h6, _, h⟩
  · exact .inl h
  · rw [h]; exact .inr ⟨rfl, i * 64, k * 64, rfl, h3, by omega, by omega, by omega⟩
  · obtain ⟨f1, f2, f3⟩ := sz_fit h1 h6 h5
    rw [h]; exact .inr ⟨rfl, i * 64 + k * Sp.sz c, Sp.sz c, rfl, h2, f2, by omega, by omega⟩

theorem space_alloc (p : Nat) (S : Spc) (hw : Wf S) (w : Int) : Gl.Spec ρ Try.prog 37 [.pointer (some ⟨p, 0, none⟩), i64 w] [SpaceA p S] P2
    fun r M => r = ((Sp.alloc S w).1, (Sp.alloc S w).2.1, ()) ∧ M = [SpaceA p (Sp.alloc S w).2.2] := by
  have hmost := hw.most
  have hlen := hw.len
  refine Spec.of (fun Q w' h => F.space.Space.Alloc.calls (some ⟨p, 0, none⟩) w h) fun R => ?_
  unfold F.space.Space.Alloc
  try simp only [List.cons_append, List.nil_append]
  refine en_call (size_block w) tks ?_
  rintro x M ⟨rfl, rfl⟩
  try simp only [List.cons_append, List.nil_append]
  refine en_brf rfl (en_br (fun h => ?_) (fun h => ?_))
  · replace h : Sp.blk w = 0 := by simpa using h
    have e : Sp.alloc S w = (0, 1, S) := by unfold Sp.alloc; rw [if_pos h]
    rw [e]
    exact en_rets (x := ((0 : Int), (1 : Int), ())) rfl ⟨rfl, rfl⟩ tks ens
  · replace h : ¬ Sp.blk w = 0 := by simpa using h
    refine en_call (space_place p S hw w h) tks ?_
    rintro x M ⟨rfl, rfl⟩
    try simp only [List.cons_append, List.nil_append]
    rcases Sp.place_fit hw h with hp | ⟨hp, a, n, ha, hn, n1, n2, n3⟩
    · have e : Sp.alloc S w = (0, 3, S) := by unfold Sp.alloc; rw [if_neg h, hp]; rfl
      rw [e, hp]
      refine en_brt rfl ?_
      exact en_rets (x := ((0 : Int), (3 : Int), ())) rfl ⟨rfl, rfl⟩ tks ens
    · have e : Sp.alloc S w = ((a : Int), 0, ⟨Sp.clr S.ws a n, (Sp.place S.pg w).2.2⟩) := by
        unfold Sp.alloc; rw [if_neg h, if_pos hp, ha, hn, Int.toNat_natCast, Int.toNat_natCast]
      rw [e, hp, ha]
      refine en_brf rfl (en_nn (SpaceA.op tk fun pa pp ms ml ls ll hS hL nS nL => ?_))
      refine en_ld (k := .ptr) (x := some ⟨pa, 0, none⟩) (by rw [fa_mk]) tk rfl ?_
      rw [hn]
      refine en_call (arena_fill pa S.ws (a : Int) (n : Int) (by omega) (by omega) (by omega) (by omega)) tks ?_
      rintro x M ⟨rfl, rfl⟩
      try simp only [List.cons_append, List.nil_append]
      rw [Int.toNat_natCast, Int.toNat_natCast]
      refine Tr.close tks (SpaceA.cl (p := p) (pa := pa) (pp := pp) (ms := ms) (ml := ml) (S := ⟨Sp.clr S.ws a n, (Sp.place S.pg w).2.2⟩) hS hL) ?_
      exact en_rets (x := ((a : Int), (0 : Int), ())) rfl ⟨rfl, rfl⟩ tks ens

theorem clr_len {ws : List Int} {i n : Nat} (h : i + n ≤ ws.length) : (Sp.clr ws i n).length = ws.length := by simp [Sp.clr]; omega
theorem set_get {pg : List Pg} {i j : Nat} {x : Pg} (h : i < pg.length) : (pg.set i x)[j]? = if i = j then some x else pg[j]? := by
  rw [List.getElem?_set]
  by_cases hij : i = j
  · rw [if_pos hij, if_pos hij, if_pos (by omega)]
  · rw [if_neg hij, if_neg hij]

theorem Wf.put_small {S : Spc} (hw : Wf S) {i c : Nat} {l : List Bool} {ws : List Int} (hws : ws.length = S.ws.length) (hc : c < 5) (hl : l.length = 64 / Sp.sz c) (hp : S.pg[i]? = some .free ∨ ∃ c' l', S.pg[i]? = some (.small c' l')) : Wf ⟨ws, S.pg.set i (.small c l)⟩ := by
  have hi : i < S.pg.length := by rcases hp with h | ⟨_, _, h⟩ <;> exact getElem?_lt h
  have nh : ∀ k, S.pg[i]? ≠ some (.head k) := by intro k h; rcases hp with h' | ⟨_, _, h'⟩ <;> rw [h'] at h <;> cases h
  have nt : S.pg[i]? ≠ some .tail := by intro h; rcases hp with h' | ⟨_, _, h'⟩ <;> rw [h'] at h <;> cases h
  have nr : S.pg[i]? ≠ some .res := by intro h; rcases hp with h' | ⟨_, _, h'⟩ <;> rw [h'] at h <;> cases h
  refine ⟨by simp [hws, hw.len], by simp [hw.most], by simp [hw.pos], ?_, ?_, ?_, ?_⟩
  · intro j
    dsimp only
    rw [set_get hi]
    split
    · rename_i e; subst e
      simp only [reduceCtorEq, Option.some.injEq, false_iff]
      intro h; exact nr ((hw.res i).mpr h)
    · exact hw.res j
  · intro j c' l' h
    dsimp only at h
    rw [set_get hi] at h
    split at h
    · simp at h; rw [← h.1, ← h.2]; exact ⟨hc, hl⟩
    · exact hw.small j c' l' h
  · intro j k h
    dsimp only at h ⊢
    rw [set_get hi] at h
    split at h
    · cases h
    · obtain ⟨h1, h2, h3, h4⟩ := hw.head j k h
      refine ⟨h1, h2, by simpa using h3, fun j' g1 g2 => ?_⟩
      rw [set_get hi]
      split
      · rename_i e; subst e; exact absurd (h4 i g1 g2) nt
      · exact h4 j' g1 g2
  · intro j h
    dsimp only at h ⊢
    rw [set_get hi] at h
    split at h
    · cases h
    · obtain ⟨j', k, h1, h2⟩ := hw.tail j h
      refine ⟨j', k, ?_, h2⟩
      rw [set_get hi]
      split
      · rename_i e; subst e; exact absurd h1 (nh k)
      · exact h1

theorem Wf.put_large {S : Spc} (hw : Wf S) {i k : Nat} {ws : List Int} (hws : ws.length = S.ws.length) (hk1 : 1 ≤ k) (hk : k ≤ 16) (hi : i + k ≤ S.pg.length) (hfree : ∀ j : Nat, i ≤ j → j < i + k → S.pg[j]? = some .free) : Wf ⟨ws, Sp.putL S.pg i k⟩ := by
  refine ⟨by simp [hws, hw.len, putL_len], by simp [hw.most, putL_len], by simp [hw.pos, putL_len], ?_, ?_, ?_, ?_⟩
  · intro j
    dsimp only
    by_cases hj : i ≤ j ∧ j < i + k
    · have hf := hfree j hj.1 hj.2
      have hj0 : j ≠ 0 := fun e => by have := (hw.res j).mpr e; rw [hf] at this; cases this
      rw [putL_get, if_pos (by omega)]
      split
      · simp [hj0]
      · rw [if_pos (by omega)]; simp [hj0]
    · rw [putL_off hk1 hj]; exact hw.res j
  · intro j c l h
    dsimp only at h
    by_cases hj : i ≤ j ∧ j < i + k
    · rw [putL_get, if_pos (by omega)] at h
      split at h
      · cases h
      · rw [if_pos (by omega)] at h; cases h
    · rw [putL_off hk1 hj] at h; exact hw.small j c l h
  · intro j k' h
    dsimp only at h ⊢
    rw [putL_len]
    by_cases hj : i ≤ j ∧ j < i + k
    · rw [putL_get, if_pos (by omega)] at h
      split at h
      · rename_i e; subst e
        injection h with h; injection h with h; subst h
        refine ⟨hk1, hk, hi, fun j' g1 g2 => ?_⟩
        rw [putL_get, if_pos (by omega), if_neg (by omega), if_pos ⟨g1, g2⟩]
      · rw [if_pos (by omega)] at h; cases h
    · rw [putL_off hk1 hj] at h
      obtain ⟨h1, h2, h3, h4⟩ := hw.head j k' h
      refine ⟨h1, h2, h3, fun j' g1 g2 => ?_⟩
      have := h4 j' g1 g2
      by_cases hj' : i ≤ j' ∧ j' < i + k
      · rw [hfree j' hj'.1 hj'.2] at this; cases this
      · rw [putL_off hk1 hj']; exact this
  · intro j h
    dsimp only at h ⊢
    by_cases hj : i ≤ j ∧ j < i + k
    · rw [putL_get, if_pos (by omega)] at h
      split at h
      · cases h
      · exact ⟨i, k, by rw [putL_get, if_pos (by omega), if_pos rfl], by omega, by omega⟩
    · rw [putL_off hk1 hj] at h
      obtain ⟨j', k', h1, h2⟩ := hw.tail j h
      refine ⟨j', k', ?_, h2⟩
      by_cases hj' : i ≤ j' ∧ j' < i + k
      · rw [hfree j' hj'.1 hj'.2] at h1; cases h1
      · rw [putL_off hk1 hj']; exact h1

theorem Sp.alloc_wf {S : Spc} (hw : Wf S) (w : Int) : Wf (Sp.alloc S w).2.2 := by
  unfold Sp.alloc
  split
  · exact hw
  · rename_i hb
    split
    · rename_i h0
      rcases Sp.place_fit hw hb with hp | ⟨_, a, n, ha, hn, n1, n2, n3⟩
      · rw [hp] at h0; cases h0
      · have hcl : (Sp.clr S.ws (Sp.place S.pg w).1.toNat (Sp.blk w).toNat).length = S.ws.length := by
          rw [ha, hn, Int.toNat_natCast, Int.toNat_natCast]; exact clr_len n3
        dsimp only
        rcases Sp.place_cases hw hb with h | ⟨i, k, _, _, h1, h2, h3, h4, h5, h⟩ | ⟨c, i, k, l, _, h1, h2, h3, h4, h5, h6, _, h⟩
        · rw [h] at h0; cases h0
        · have e : (Sp.place S.pg w).2.2 = Sp.putL S.pg i k := by rw [h]
          rw [e]; exact hw.put_large hcl h1 h2 h4 h5
        · have e : (Sp.place S.pg w).2.2 = S.pg.set i (.small c (l.set k true)) := by rw [h]
          rw [e]
          refine hw.put_small hcl h1 (by simpa using h5) ?_
          rcases h4 with h4 | ⟨h4, _⟩
          · exact .inr ⟨c, l, h4⟩
          · exact .inl h4
    · exact hw

end Go.Proofs.Ytncpnmpfghppeaa
