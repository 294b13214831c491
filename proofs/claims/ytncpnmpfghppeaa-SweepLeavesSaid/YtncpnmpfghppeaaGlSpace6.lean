/- Spaces: Free. -/
import Derived.Test.YtncpnmpfghppeaaGlSpace5
set_option linter.unusedSimpArgs false
set_option linter.unusedVariables false
namespace Go.Proofs.Ytncpnmpfghppeaa
open Go Go.Gl
variable {ρ0 ρ : FR} {L L' : List Asn} {Post : Value → List Asn → Prop} {T : Tree}

theorem dMS {ty : TypeId} : (#[tMS, 3] : Array TypeId)[0]? = some tMS := rfl
theorem dML : (#[tML, 3] : Array TypeId)[0]? = some tML := rfl

/-- what is found at its own beginning -/
theorem Sp.find_at {S : Spc} (hw : Wf S) {n s w : Nat} (h : Sp.find S n = some (s, w)) (e : s = n) :
    n < S.ws.length ∧ ((∃ c l k, S.pg[n / 64]? = some (.small c l) ∧ c < 5 ∧ l.length = 64 / Sp.sz c ∧ k = n % 64 / Sp.sz c ∧ l.getD k false = true ∧ n = n / 64 * 64 + k * Sp.sz c ∧ w = Sp.sz c) ∨
      ∃ k, S.pg[n / 64]? = some (.head k) ∧ n = n / 64 * 64 ∧ w = k * 64) := by
  have hn : n < S.ws.length := by
    rcases Nat.lt_or_ge n S.ws.length with c | c
    · exact c
    · rw [Sp.find_out (by omega)] at h; cases h
  refine ⟨hn, ?_⟩
  by_cases hsm : ∃ c l, S.pg[n / 64]? = some (.small c l)
  · obtain ⟨c, l, hsm⟩ := hsm
    rw [Sp.find_small hn hsm] at h
    split at h
    · rename_i hl
      injection h with h; injection h with h1 h2
      obtain ⟨hc, hll⟩ := hw.small _ _ _ hsm
      exact .inl ⟨c, l, _, hsm, hc, hll, rfl, hl, by omega, h2.symm⟩
    · cases h
  · have hns : ∀ c l, S.pg[n / 64]? ≠ some (.small c l) := fun c l h => hsm ⟨c, l, h⟩
    rw [Sp.find_other hn hns] at h
    cases ho : Sp.own S.pg (n / 64) with
    | none => rw [ho] at h; cases h
    | some x =>
      obtain ⟨j, k⟩ := x
      rw [ho] at h
      injection h with h; injection h with h1 h2
      obtain ⟨g1, g2, g3⟩ := Sp.own_is ho
      dsimp only at h1 h2
      have : j = n / 64 := by omega
      subst this
      exact .inr ⟨k, g1, by omega, h2.symm⟩

theorem space_free (p : Nat) (S : Spc) (hw : Wf S) (a : Int) : Gl.Spec ρ Try.prog 24 [.pointer (some ⟨p, 0, none⟩), i64 a] [SpaceA p S] R1
    fun r M => r = (Sp.freeS S a).1 ∧ M = [SpaceA p (Sp.freeS S a).2] := by
  have hmost := hw.most
  have hlen := hw.len
  refine Spec.of (fun Q w' h => F.space.Space.Free.calls (some ⟨p, 0, none⟩) a h) fun R => ?_
  unfold F.space.Space.Free
  try simp only [List.cons_append, List.nil_append]
  refine en_call (space_find p S hw a) tks ?_
  rintro x M ⟨rfl, rfl⟩
  try simp only [List.cons_append, List.nil_append]
  cases hf : Sp.find S a with
  | none =>
    have e : Sp.freeS S a = (2, S) := by unfold Sp.freeS; rw [hf]
    rw [e]
    refine en_brt rfl ?_
    exact en_rets (x := (2 : Int)) rfl ⟨rfl, rfl⟩ tks ens
  | some x =>
    obtain ⟨s, w⟩ := x
    refine en_brf rfl (en_br (fun h => ?_) (fun h => ?_))
    · have h : ¬ (s : Int) = a := by simpa [Sp.found] using h
      have e : Sp.freeS S a = (2, S) := by unfold Sp.freeS; rw [hf]; dsimp only; rw [if_neg h]
      rw [e]
      exact en_rets (x := (2 : Int)) rfl ⟨rfl, rfl⟩ tks ens
    · have h : (s : Int) = a := by simpa [Sp.found] using h
      subst h
      obtain ⟨hn, hcase⟩ := Sp.find_at hw hf rfl
      have hp : s / 64 < S.pg.length := by omega
      refine en_need (by decide) (en_nn (SpaceA.op tk fun pa pp ms ml ls ll hS hL nS nL => ?_))
      refine en_ld (k := .map) (x := some ms) (by rw [fa_mk]) tk rfl ?_
      rw [tdiv64, wrap64 (n := ((s / 64 : Nat) : Int)) (by omega) (by omega)]
      refine en_lkp2 (kd := .ptr) (g := gS) (z0 := none) uMS uI zPg hgS tk ?_
      have hp0 : 1 ≤ s / 64 := by
        rcases Nat.eq_zero_or_pos (s / 64) with h0 | h0
        · have := (hw.res (s / 64)).mpr h0
          rcases hcase with ⟨c, l, k, h1, _⟩ | ⟨k, h1, _⟩ <;> rw [this] at h1 <;> cases h1
        · exact h0
      rcases hcase with ⟨c, l, k, h1, h2, h3, h4, h5, h6, h7⟩ | ⟨k, h1, h2, h3⟩
      · obtain ⟨q, hq⟩ := hS.get nS h1
        have e : Sp.freeS S s = (0, ⟨S.ws, S.pg.set (s / 64) (if (l.set k false).count true = 0 then .free else .small c (l.set k false))⟩) := by
          unfold Sp.freeS; rw [hf]; dsimp only; rw [if_pos rfl, Int.toNat_natCast, h1]; dsimp only; rw [← h4]
        rw [e, hq]
        have hz := Sp.sz_cases h2
        have hl32 : (l.set k false).length ≤ 32 := by rw [List.length_set, h3]; rcases hz with ⟨_, e⟩ | ⟨_, e⟩ | ⟨_, e⟩ | ⟨_, e⟩ | ⟨_, e⟩ <;> rw [e] <;> decide
        have hset := hS.set nS (p := s / 64) (c := c) (q := q) (l := l.set k false) hp
        obtain ⟨l1, l2, hl12, has, hdel⟩ := aget_split hq
        rw [has] at hset
        subst hl12
        refine en_brf rfl (en_need (by decide) ?_)
        refine Tr.mid (P := PgA) tk ?_
        refine en_call (block_words q l (Sp.sz c)) (Takes.cons .here .nil) ?_
        rintro x M ⟨rfl, rfl⟩
        try simp only [List.cons_append, List.nil_append]
        refine en_need (by omega) ?_
        rw [tmod64, tdivN, ← h4]
        have hk64 : k ≤ 64 := by rw [h4]; have := Nat.div_le_self (s % 64) (Sp.sz c); omega
        rw [wrap64 (n := (k : Int)) (by omega) (by omega)]
        refine en_call (block_give q l (Sp.sz c) k h5) (Takes.cons .here .nil) ?_
        rintro x M ⟨rfl, rfl⟩
        try simp only [List.cons_append, List.nil_append]
        refine en_brf rfl ?_
        refine en_call (block_empty q (l.set k false) (Sp.sz c) hl32) (Takes.cons .here .nil) ?_
        rintro x M ⟨rfl, rfl⟩
        try simp only [List.cons_append, List.nil_append]
        refine en_br (fun h8 => ?_) (fun h8 => ?_)
        · have h8 : ¬ (l.set k false).count true = 0 := by simpa using h8
          rw [if_neg h8]
          refine Tr.close (M := [PageA q (l.set k false) (Sp.sz c), star ((l1 ++ l2).map PgA)]) tks (pg_close ((s / 64 : Nat) : Int) (q := q) (c := c) (l := l.set k false)) ?_
          refine Tr.imp (A := IM ms fS (l1 ++ (((s / 64 : Nat) : Int), q, c, l) :: l2)) (A' := IM ms fS (l1 ++ (((s / 64 : Nat) : Int), q, c, l.set k false) :: l2)) tk (IM.ghost (by simp [fS])) ?_
          have htk : S.pg.map Pg.taken = (S.pg.set (s / 64) (.small c (l.set k false))).map Pg.taken := by
            rw [taken_set hp]
            refine bits_ext (by rw [Sp.setR_len]) fun j hj => ?_
            rw [Sp.setR_get hj]
            split
            · have : j = s / 64 := by omega
              subst this
              rw [taken_getD, getD_of h1]; rfl
            · rfl
          rw [htk]
          have hL2 : Larges (S.pg.set (s / 64) (.small c (l.set k false))) ll := hL.same (heads_set (fun k h => by rw [h1] at h; cases h) (fun k h => by cases h))
          refine Tr.close tks (SpaceA.cl (p := p) (pa := pa) (pp := pp) (ms := ms) (ml := ml) (S := ⟨S.ws, S.pg.set (s / 64) (.small c (l.set k false))⟩) hset hL2) ?_
          exact en_rets (x := (0 : Int)) rfl ⟨rfl, rfl⟩ tks ens
        · have h8 : (l.set k false).count true = 0 := by simpa using h8
          rw [if_pos h8]
          refine en_nn ?_
          refine en_ld (k := .map) (x := some ms) (by rw [fa_mk]) tk rfl ?_
          refine en_del (l := l1 ++ (((s / 64 : Nat) : Int), q, c, l) :: l2) rfl uMS uI tk ?_
          refine en_nn ?_
          refine en_ld (k := .ptr) (x := some ⟨pp, 0, none⟩) (by rw [fa_mk]) tk rfl ?_
          have hgive := pages_give (ρ := ρ) pp (S.pg.map Pg.taken) (s / 64) 1 hp0 (by omega) (by rw [List.length_map]; omega) (by simpa using hmost) (fun j g1 g2 => by
            have : j = s / 64 := by omega
            subst this
            rw [taken_getD, getD_of h1]; rfl)
          refine en_call hgive tks ?_
          rintro x M ⟨rfl, rfl⟩
          try simp only [List.cons_append, List.nil_append]
          have hS2 : Smalls (S.pg.set (s / 64) .free) (adel ((s / 64 : Nat) : Int) (l1 ++ (((s / 64 : Nat) : Int), q, c, l) :: l2)) := hS.del nS (fun c l h => by cases h)
          have hL2 : Larges (S.pg.set (s / 64) .free) ll := hL.same (heads_set (fun k h => by rw [h1] at h; cases h) (fun k h => by cases h))
          rw [hdel] at hS2 ⊢
          rw [show Sp.setR (S.pg.map Pg.taken) false (s / 64) 1 = (S.pg.set (s / 64) .free).map Pg.taken from (taken_set (x := .free) hp).symm]
          refine Tr.close tks (SpaceA.cl (p := p) (pa := pa) (pp := pp) (ms := ms) (ml := ml) (S := ⟨S.ws, S.pg.set (s / 64) .free⟩) hS2 hL2) ?_
          exact en_rets (x := (0 : Int)) rfl ⟨rfl, rfl⟩ tks ens
      · have hns : ∀ c l, S.pg[s / 64]? ≠ some (.small c l) := fun c l h => by rw [h1] at h; cases h
        have e : Sp.freeS S s = (0, ⟨S.ws, Sp.freeL S.pg (s / 64) k⟩) := by
          unfold Sp.freeS; rw [hf]; dsimp only; rw [if_pos rfl, Int.toNat_natCast, h1]
        obtain ⟨k1, k2, k3, k4⟩ := hw.head _ _ h1
        rw [e, hS.none hns]
        refine en_brt rfl (en_nn ?_)
        refine en_ld (k := .map) (x := some ml) (by rw [fa_mk]) tk rfl ?_
        refine en_lkp1 (kd := .int .i64) (g := gL) (z0 := (0 : Int)) uML uI zI hgL tk ?_
        rw [hL.get nL h1]
        refine en_nn ?_
        refine en_ld (k := .map) (x := some ml) (by rw [fa_mk]) tk rfl ?_
        refine en_del (l := ll) rfl uML uI tk ?_
        refine en_nn ?_
        refine en_ld (k := .ptr) (x := some ⟨pp, 0, none⟩) (by rw [fa_mk]) tk rfl ?_
        have htail : ∀ j : Nat, s / 64 ≤ j → j < s / 64 + k → S.pg[j]? = some (.head k) ∧ j = s / 64 ∨ S.pg[j]? = some .tail := fun j g1 g2 => by
          rcases Nat.lt_or_ge (s / 64) j with g | g
          · exact .inr (k4 j g g2)
          · have : j = s / 64 := by omega
            subst this; exact .inl ⟨h1, rfl⟩
        have hgive := pages_give (ρ := ρ) pp (S.pg.map Pg.taken) (s / 64) k hp0 (by omega) (by simpa using k3) (by simpa using hmost) (fun j g1 g2 => by
          rcases htail j g1 g2 with ⟨h, _⟩ | h <;> rw [taken_getD, getD_of h] <;> rfl)
        refine en_call hgive tks ?_
        rintro x M ⟨rfl, rfl⟩
        try simp only [List.cons_append, List.nil_append]
        have hS2 : Smalls (Sp.freeL S.pg (s / 64) k) ls := hS.same (fun j c l => by
          by_cases hj : s / 64 ≤ j ∧ j < s / 64 + k
          · rw [freeL_get, if_pos (by omega), if_pos hj]
            rcases htail j hj.1 hj.2 with ⟨h, _⟩ | h <;> rw [h] <;> constructor <;> intro h <;> cases h
          · rw [freeL_off hj])
        have hL2 : Larges (Sp.freeL S.pg (s / 64) k) (adel ((s / 64 : Nat) : Int) ll) := hL.del nL (fun k' h => by rw [freeL_get, if_pos hp, if_pos ⟨by omega, by omega⟩] at h; cases h) (fun j k' hj => by
          by_cases hj2 : s / 64 ≤ j ∧ j < s / 64 + k
          · rw [freeL_get, if_pos (by omega), if_pos hj2]
            rcases htail j hj2.1 hj2.2 with ⟨_, h⟩ | h
            · exact absurd h hj
            · rw [h]; constructor <;> intro h <;> cases h
          · rw [freeL_off hj2])
        rw [← taken_freeL]
        refine Tr.close tks (SpaceA.cl (p := p) (pa := pa) (pp := pp) (ms := ms) (ml := ml) (S := ⟨S.ws, Sp.freeL S.pg (s / 64) k⟩) hS2 hL2) ?_
        exact en_rets (x := (0 : Int)) rfl ⟨rfl, rfl⟩ tks ens

theorem Wf.set_free {S : Spc} (hw : Wf S) {i c : Nat} {l : List Bool} (hp : S.pg[i]? = some (.small c l)) : Wf ⟨S.ws, S.pg.set i .free⟩ := by
  have hi := getElem?_lt hp
  refine ⟨by simp [hw.len], by simp [hw.most], by simp [hw.pos], ?_, ?_, ?_, ?_⟩
  · intro j
    dsimp only
    rw [set_get hi]
    split
    · rename_i e; subst e
      simp only [reduceCtorEq, Option.some.injEq, false_iff]
      intro h; have := (hw.res i).mpr h; rw [hp] at this; cases this
    · exact hw.res j
  · intro j c' l' h
    dsimp only at h
    rw [set_get hi] at h
    split at h
    · cases h
    · exact hw.small j c' l' h
  · intro j k h
    dsimp only at h ⊢
    rw [set_get hi] at h
    split at h
    · cases h
    · obtain ⟨h1, h2, h3, h4⟩ := hw.head j k h
      refine ⟨h1, h2, by simpa using h3, fun j' g1 g2 => ?_⟩
      rw [set_get hi]
      split
      · rename_i e; subst e; have := h4 i g1 g2; rw [hp] at this; cases this
      · exact h4 j' g1 g2
  · intro j h
    dsimp only at h ⊢
    rw [set_get hi] at h
    split at h
    · cases h
    · obtain ⟨j', k, h1, h2⟩ := hw.tail j h
      refine ⟨j', k, ?_, h2⟩
      rw [set_get hi]
      split
      · rename_i e; subst e; rw [hp] at h1; cases h1
      · exact h1
theorem Wf.free_large {S : Spc} (hw : Wf S) {i k : Nat} (hp : S.pg[i]? = some (.head k)) : Wf ⟨S.ws, Sp.freeL S.pg i k⟩ := by
  obtain ⟨k1, k2, k3, k4⟩ := hw.head _ _ hp
  have hr : ∀ j : Nat, i ≤ j → j < i + k → S.pg[j]? ≠ some .res := fun j g1 g2 h => by
    rcases Nat.lt_or_ge i j with g | g
    · rw [k4 j g g2] at h; cases h
    · have : j = i := by omega
      subst this; rw [hp] at h; cases h
  refine ⟨by simp [hw.len, freeL_len], by simp [hw.most, freeL_len], by simp [hw.pos, freeL_len], ?_, ?_, ?_, ?_⟩
  · intro j
    dsimp only
    by_cases hj : i ≤ j ∧ j < i + k
    · rw [freeL_get, if_pos (by omega), if_pos hj]
      simp only [reduceCtorEq, Option.some.injEq, false_iff]
      intro h; exact hr j hj.1 hj.2 ((hw.res j).mpr h)
    · rw [freeL_off hj]; exact hw.res j
  · intro j c l h
    dsimp only at h
    by_cases hj : i ≤ j ∧ j < i + k
    · rw [freeL_get, if_pos (by omega), if_pos hj] at h; cases h
    · rw [freeL_off hj] at h; exact hw.small j c l h
  · intro j k' h
    dsimp only at h ⊢
    rw [freeL_len]
    by_cases hj : i ≤ j ∧ j < i + k
    · rw [freeL_get, if_pos (by omega), if_pos hj] at h; cases h
    · rw [freeL_off hj] at h
      obtain ⟨h1, h2, h3, h4⟩ := hw.head j k' h
      refine ⟨h1, h2, h3, fun j' g1 g2 => ?_⟩
      by_cases hj' : i ≤ j' ∧ j' < i + k
      · have := hw.uniq h hp ⟨by omega, g2⟩ hj'
        omega
      · rw [freeL_off hj']; exact h4 j' g1 g2
  · intro j h
    dsimp only at h ⊢
    by_cases hj : i ≤ j ∧ j < i + k
    · rw [freeL_get, if_pos (by omega), if_pos hj] at h; cases h
    · rw [freeL_off hj] at h
      obtain ⟨j', k', h1, h2⟩ := hw.tail j h
      refine ⟨j', k', ?_, h2⟩
      by_cases hj' : i ≤ j' ∧ j' < i + k
      · exfalso
        rcases Nat.lt_or_ge i j' with g | g
        · rw [k4 j' g hj'.2] at h1; cases h1
        · have : j' = i := by omega
          subst this
          rw [hp] at h1; injection h1 with h1; injection h1 with h1
          omega
      · rw [freeL_off hj']; exact h1
theorem Sp.free_wf {S : Spc} (hw : Wf S) (a : Int) : Wf (Sp.freeS S a).2 := by
  unfold Sp.freeS
  split
  · rename_i s w hf
    split
    · rename_i e
      subst e
      obtain ⟨hn, hcase⟩ := Sp.find_at hw hf rfl
      rcases hcase with ⟨c, l, k, h1, h2, h3, h4, h5, h6, h7⟩ | ⟨k, h1, h2, h3⟩
      · rw [Int.toNat_natCast, h1]
        dsimp only
        rw [← h4]
        split
        · exact hw.set_free h1
        · exact hw.put_small rfl h2 (by simpa using h3) (.inr ⟨c, l, h1⟩)
      · rw [Int.toNat_natCast, h1]
        exact hw.free_large h1
    · exact hw
  · exact hw

end Go.Proofs.Ytncpnmpfghppeaa
