/- Spaces: place, Alloc. -/
import Derived.Test.YtncpnmpfghppeaaGlSpace3
set_option linter.unusedSimpArgs false
set_option linter.unusedVariables false
namespace Go.Proofs.Ytncpnmpfghppeaa
open Go Go.Gl
variable {ρ0 ρ : FR} {L L' : List Asn} {Post : Value → List Asn → Prop} {T : Tree}

theorem smalls_over {pg pg' : List Pg} {i k : Nat} (hfree : ∀ j : Nat, i ≤ j → j < i + k → pg[j]? = some .free) (h1 : ∀ j : Nat, ¬ (i ≤ j ∧ j < i + k) → pg'[j]? = pg[j]?) (h2 : ∀ (j : Nat) c l, i ≤ j → j < i + k → pg'[j]? ≠ some (.small c l)) (j : Nat) (c : Nat) (l : List Bool) :
    pg[j]? = some (.small c l) ↔ pg'[j]? = some (.small c l) := by
  by_cases hj : i ≤ j ∧ j < i + k
  · rw [hfree j hj.1 hj.2]
    constructor
    · intro h; cases h
    · intro h; exact absurd h (h2 j c l hj.1 hj.2)
  · rw [h1 j hj]
theorem putL_off {pg : List Pg} {i k j : Nat} (hk : 1 ≤ k) (hj : ¬ (i ≤ j ∧ j < i + k)) : (Sp.putL pg i k)[j]? = pg[j]? := by
  rw [putL_get]
  by_cases h : j < pg.length
  · rw [if_pos h, if_neg (by omega), if_neg (by omega), of_getD h]
  · rw [if_neg h, List.getElem?_eq_none (by omega)]
theorem freeL_off {pg : List Pg} {i k j : Nat} (hj : ¬ (i ≤ j ∧ j < i + k)) : (Sp.freeL pg i k)[j]? = pg[j]? := by
  rw [freeL_get]
  by_cases h : j < pg.length
  · rw [if_pos h, if_neg hj, of_getD h]
  · rw [if_neg h, List.getElem?_eq_none (by omega)]

theorem next_of_count {l : List Bool} (h : l.count true ≠ l.length) : ∃ k : Nat, Sp.next l 0 false = k ∧ k < l.length ∧ l.getD k false = false := by
  rcases Sp.next_spec l false 0 with ⟨g1, g2⟩ | ⟨k, g1, g2, g3, g4, g5⟩
  · exfalso
    apply h
    rw [List.count_eq_length]
    intro b hb
    obtain ⟨j, hj, e⟩ := List.getElem_of_mem hb
    have := g2 j (by omega) hj
    rw [List.getD_eq_getElem?_getD, List.getElem?_eq_getElem hj, Option.getD_some, e] at this
    cases b with
    | true => rfl
    | false => exact absurd rfl this
  · exact ⟨k, by simpa using g1, g3, g4⟩
theorem next_rep {n : Nat} (h : 0 < n) : ∃ k : Nat, Sp.next (List.replicate n false) 0 false = k ∧ k < (List.replicate n false).length ∧ (List.replicate n false).getD k false = false := by
  apply next_of_count
  simp [List.count_replicate]; omega

theorem Sp.pgs_pos {w : Int} (hb : Sp.blk w ≠ 0) (hc : Sp.cls w < 0) : 1 ≤ Sp.pgs w ∧ Sp.pgs w ≤ 16 ∧ Sp.blk w = Sp.pgs w * 64 := by
  have h := hb
  unfold Sp.blk at h ⊢
  rw [if_neg (by omega)] at h ⊢
  have : Sp.pgs w ≠ 0 := fun e => h (by rw [e]; rfl)
  unfold Sp.pgs at this ⊢
  split at this
  · exact absurd rfl this
  · rename_i hn
    rw [if_neg hn]
    omega

theorem space_place (p : Nat) (S : Spc) (hw : Wf S) (w : Int) (hb : Sp.blk w ≠ 0) : Gl.Spec ρ Try.prog 62 [.pointer (some ⟨p, 0, none⟩), i64 w] [SpaceA p S] P2
    fun r M => r = ((Sp.place S.pg w).1, (Sp.place S.pg w).2.1, ()) ∧ M = [SpaceA p ⟨S.ws, (Sp.place S.pg w).2.2⟩] := by
  have hmost := hw.most
  refine Spec.of (fun Q w' h => F.space.Space.place.calls (some ⟨p, 0, none⟩) w h) fun R => ?_
  unfold F.space.Space.place
  try simp only [List.cons_append, List.nil_append]
  refine en_call (size_class w) tks ?_
  rintro x M ⟨rfl, rfl⟩
  try simp only [List.cons_append, List.nil_append]
  refine en_br (fun h => ?_) (fun h => ?_)
  · replace h : Sp.cls w < 0 := of_decide_eq_true h
    obtain ⟨k1, k2, _⟩ := Sp.pgs_pos hb h
    refine en_call (size_pages w) tks ?_
    rintro x M ⟨rfl, rfl⟩
    try simp only [List.cons_append, List.nil_append]
    obtain ⟨k, hk⟩ : ∃ k : Nat, Sp.pgs w = k := ⟨(Sp.pgs w).toNat, by omega⟩
    have hpl : Sp.place S.pg w = (match Sp.run (S.pg.map Pg.taken) k with | some p => (((p * 64 : Nat) : Int), 0, Sp.putL S.pg p k) | none => (0, 3, S.pg)) := by
      unfold Sp.place; rw [if_pos h, hk, Int.toNat_natCast]; rfl
    rw [hk]
    refine en_nn (SpaceA.op tk fun pa pp ms ml ls ll hS hL nS nL => ?_)
    refine en_ld (k := .ptr) (x := some ⟨pp, 0, none⟩) (by rw [fa_mk]) tk rfl ?_
    refine en_call (pages_take pp (S.pg.map Pg.taken) k (by omega) (by omega) (by simpa using hmost)) tks ?_
    rintro x M (⟨hr, rfl, rfl⟩ | ⟨i, hr, rfl, rfl⟩)
    · try simp only [List.cons_append, List.nil_append]
      rw [hr] at hpl
      rw [hpl]
      refine en_brt rfl ?_
      refine Tr.close tks (SpaceA.cl (p := p) (pa := pa) (pp := pp) (ms := ms) (ml := ml) (S := ⟨S.ws, S.pg⟩) hS hL) ?_
      exact en_rets (x := ((0 : Int), (3 : Int), ())) rfl ⟨rfl, rfl⟩ tks ens
    · try simp only [List.cons_append, List.nil_append]
      rw [hr] at hpl
      dsimp only at hpl
      rw [hpl]
      obtain ⟨hi, hfree⟩ := run_free hr
      refine en_brf rfl (en_nn ?_)
      refine en_ld (k := .map) (x := some ml) (by rw [fa_mk]) tk rfl ?_
      refine en_upd (f := fL) (a := k) uML uI rfl tk ?_
      have hS' : Smalls (Sp.putL S.pg i k) ls := hS.same (smalls_over hfree (fun j hj => putL_off (by omega) hj) (fun j c l g1 g2 h => by
        rw [putL_get] at h
        split at h
        · split at h
          · cases h
          · split at h
            · cases h
            · omega
        · cases h))
      have hL' : Larges (Sp.putL S.pg i k) (aset (i : Int) k ll) := hL.set nL (by rw [putL_get, if_pos (by omega), if_pos rfl]) (fun j k' hj => by
        by_cases hjr : i ≤ j ∧ j < i + k
        · rw [hfree j hjr.1 hjr.2, putL_get, if_pos (by omega), if_neg hj, if_pos ⟨by omega, by omega⟩]
          constructor <;> intro h <;> cases h
        · rw [putL_off (by omega) hjr])
      rw [← taken_putL (by omega)]
      refine Tr.close tks (SpaceA.cl (p := p) (pa := pa) (pp := pp) (ms := ms) (ml := ml) (S := ⟨S.ws, Sp.putL S.pg i k⟩) hS' hL') ?_
      rw [wrap64 (by omega) (by omega)]
      refine en_rets (x := (((i * 64 : Nat) : Int), (0 : Int), ())) ?_ ⟨rfl, rfl⟩ tks ens
      simp [RK.val, KD.val, LK.val, kvals]
  · replace h : ¬ Sp.cls w < 0 := of_decide_eq_false h
    have hcc := Sp.cls_cases w
    obtain ⟨c, hc⟩ : ∃ c : Nat, Sp.cls w = c := ⟨(Sp.cls w).toNat, by omega⟩
    have hc5 : c < 5 := by omega
    have hz := Sp.sz_cases hc5
    rw [hc]
    refine en_call (space_first p S hw c hc5) tks ?_
    intro x M hx
    have key : (x = ((0 : Int), (3 : Int), ()) ∧ M = [SpaceA p S] ∧ Sp.place S.pg w = (0, 3, S.pg)) ∨
        ∃ (i : Nat) (l : List Bool) (S1 : Spc) (k : Nat), x = ((i : Int), (0 : Int), ()) ∧ M = [SpaceA p S1] ∧ S1.pg[i]? = some (.small c l) ∧ S1.ws = S.ws ∧ i < S.pg.length ∧ l.length ≤ 32 ∧ l.length = 64 / Sp.sz c ∧ Sp.next l 0 false = k ∧ k < l.length ∧
          S1.pg.length = S.pg.length ∧ (∀ y, S1.pg.set i y = S.pg.set i y) ∧ Sp.place S.pg w = Sp.placeS S.pg i c l := by
      have h32 : 64 / Sp.sz c ≤ 32 ∧ 0 < 64 / Sp.sz c := by rcases hz with ⟨_, e⟩ | ⟨_, e⟩ | ⟨_, e⟩ | ⟨_, e⟩ | ⟨_, e⟩ <;> rw [e] <;> decide
      have hpl : Sp.place S.pg w = (match Sp.openP S.pg c with
        | some p => Sp.placeS S.pg p c (Sp.blocks S.pg p)
        | none => (match Sp.run (S.pg.map Pg.taken) 1 with
          | some p => Sp.placeS S.pg p c (List.replicate (64 / Sp.sz c) false)
          | none => (0, 3, S.pg))) := by unfold Sp.place; rw [if_neg h, hc, Int.toNat_natCast]; rfl
      rcases hx with ⟨i, ho, rfl, rfl⟩ | ⟨i, ho, hr, rfl, rfl⟩ | ⟨ho, hr, rfl, rfl⟩
      · obtain ⟨l, hp, hcnt⟩ := Sp.openP_is ho
        obtain ⟨k, g1, g2, _⟩ := next_of_count hcnt
        have hll := (hw.small _ _ _ hp).2
        refine .inr ⟨i, l, S, k, rfl, rfl, hp, rfl, getElem?_lt hp, by omega, hll, g1, g2, rfl, fun _ => rfl, ?_⟩
        rw [hpl, ho]
        dsimp only
        congr 1
        unfold Sp.blocks
        rw [hp]
      · obtain ⟨hi, _⟩ := run_free hr
        obtain ⟨k, g1, g2, _⟩ := next_rep (n := 64 / Sp.sz c) h32.2
        refine .inr ⟨i, List.replicate (64 / Sp.sz c) false, _, k, rfl, rfl, ?_, rfl, by omega, by simpa using h32.1, by simp, g1, g2, by simp, fun y => by simp, ?_⟩
        · show (S.pg.set i _)[i]? = _
          rw [List.getElem?_set, if_pos rfl, if_pos (by omega)]
        · rw [hpl, ho, hr]
      · exact .inl ⟨rfl, rfl, by rw [hpl, ho, hr]⟩
    rcases key with ⟨rfl, rfl, hpl⟩ | ⟨i, l, S1, k, rfl, rfl, hp, hws, hi, hl32, hll, g1, g2, hsl, hset, hpl⟩
    · try simp only [List.cons_append, List.nil_append]
      rw [hpl]
      refine en_brt rfl ?_
      exact en_rets (x := ((0 : Int), (3 : Int), ())) rfl ⟨rfl, rfl⟩ tks ens
    · try simp only [List.cons_append, List.nil_append]
      rw [hpl]
      refine en_brf rfl (en_nn (SpaceA.op tk fun pa pp ms ml ls ll hS hL nS nL => ?_))
      refine en_ld (k := .map) (x := some ms) (by rw [fa_mk]) tk rfl ?_
      refine en_lkp1 (kd := .ptr) (g := gS) (z0 := none) uMS uI zPg hgS tk ?_
      obtain ⟨q, hq⟩ := hS.get nS hp
      rw [hq]
      have hS2 := hS.set nS (p := i) (c := c) (q := q) (l := l.set k true) (getElem?_lt hp)
      obtain ⟨l1, l2, hl12, has, _⟩ := aget_split hq
      rw [has] at hS2
      subst hl12
      refine Tr.mid (P := PgA) tk ?_
      refine en_call (block_take q l (Sp.sz c) hl32) (Takes.cons .here .nil) ?_
      rintro x M (⟨e1, _⟩ | ⟨k', e1, e2, rfl, rfl⟩)
      · rw [g1] at e1; omega
      try simp only [List.cons_append, List.nil_append]
      have hkk : k' = k := by rw [g1] at e1; omega
      subst hkk
      refine en_brf rfl (en_nn ?_)
      refine Tr.close (M := [PageA q (l.set k' true) (Sp.sz c), star ((l1 ++ l2).map PgA)]) tks (pg_close (i : Int) (q := q) (c := c) (l := l.set k' true)) ?_
      refine Tr.imp (A := IM ms fS (l1 ++ ((i : Int), q, c, l) :: l2)) (A' := IM ms fS (l1 ++ ((i : Int), q, c, l.set k' true) :: l2)) tk (IM.ghost (by simp [fS])) ?_
      refine en_ld (k := .map) (x := some ms) (by rw [fa_mk]) tk rfl ?_
      refine Tr.keys (b := ms) (f := fS) (l := l1 ++ ((i : Int), q, c, l.set k' true) :: l2) tk fun nS2 => ?_
      refine en_lkp1 (kd := .ptr) (g := gS) (z0 := none) (l := l1 ++ ((i : Int), q, c, l.set k' true) :: l2) uMS uI zPg hgS tk ?_
      have hq2 : aget (i : Int) (l1 ++ ((i : Int), q, c, l.set k' true) :: l2) = some (q, c, l.set k' true) := (aget_mem nS2).mpr (by simp)
      rw [hq2]
      refine Tr.mid (P := PgA) tk ?_
      refine en_call (block_words q (l.set k' true) (Sp.sz c)) (Takes.cons .here .nil) ?_
      rintro x M ⟨rfl, rfl⟩
      try simp only [List.cons_append, List.nil_append]
      refine Tr.close (M := [PageA q (l.set k' true) (Sp.sz c), star ((l1 ++ l2).map PgA)]) tks (pg_close (i : Int) (q := q) (c := c) (l := l.set k' true)) ?_
      have hL2 : Larges (S1.pg.set i (.small c (l.set k' true))) ll := hL.same (heads_set (fun k h => by rw [hp] at h; cases h) (fun k h => by cases h))
      rw [hset] at hS2 hL2
      have htk : S1.pg.map Pg.taken = (S.pg.set i (.small c (l.set k' true))).map Pg.taken := by
        rw [← hset]
        apply List.ext_getElem?
        intro j
        rw [List.getElem?_map, List.getElem?_map, List.getElem?_set]
        by_cases hij : i = j
        · subst hij; rw [hp, if_pos rfl, if_pos (getElem?_lt hp)]; rfl
        · rw [if_neg hij]
      rw [htk, hws]
      have epl : (Sp.placeS S.pg i c l).2.2 = S.pg.set i (.small c (l.set k' true)) := by unfold Sp.placeS; rw [g1, Int.toNat_natCast]
      rw [epl]
      refine Tr.close tks (SpaceA.cl (p := p) (pa := pa) (pp := pp) (ms := ms) (ml := ml) (S := ⟨S.ws, S.pg.set i (.small c (l.set k' true))⟩) hS2 hL2) ?_
      have e1 : (k' : Int) * (Sp.sz c : Int) = ((k' * Sp.sz c : Nat) : Int) := by simp
      have hb64 : k' * Sp.sz c < 64 := by
        have : k' < 64 / Sp.sz c := by omega
        exact (Nat.lt_div_iff_mul_lt (by omega)).mp this |> fun h => by omega
      rw [e1]
      have epl1 : (Sp.placeS S.pg i c l).1 = ((i * 64 + k' * Sp.sz c : Nat) : Int) := by unfold Sp.placeS; rw [g1, Int.toNat_natCast]
      generalize k' * Sp.sz c = dd at hb64 epl1 ⊢
      rw [wrap64 (n := (dd : Int)) (by omega) (by omega), wrap64 (n := (i : Int) * 64) (by omega) (by omega), wrap64 (by omega) (by omega)]
      refine en_rets (x := (((i * 64 + dd : Nat) : Int), (0 : Int), ())) ?_ ⟨?_, rfl⟩ tks ens
      · simp [RK.val, KD.val, LK.val, kvals]
      · rw [epl1]; rfl

end Go.Proofs.Ytncpnmpfghppeaa
