/- Spaces: Each, Used. -/
import Derived.Test.YtncpnmpfghppeaaGlSpace6
set_option linter.unusedSimpArgs false
set_option linter.unusedVariables false
namespace Go.Proofs.Ytncpnmpfghppeaa
open Go Go.Gl
variable {ρ0 ρ : FR} {L L' : List Asn} {Post : Value → List Asn → Prop} {T : Tree}

/-! ### plain laws -/
theorem parts_perm {α β : Type} {a b : α → Bool} {g : α → List β} (hab : ∀ x, a x = true → b x = true → False) (h0 : ∀ x, a x = false → b x = false → g x = []) : ∀ l : List α, ((l.filter a).flatMap g ++ (l.filter b).flatMap g).Perm (l.flatMap g)
  | [] => .refl _
  | x :: l => by
    have ih := parts_perm hab h0 l
    cases ha : a x with
    | true =>
      have hb : b x = false := by cases hb : b x with
        | false => rfl
        | true => exact (hab x ha hb).elim
      rw [List.filter_cons_of_pos ha, List.filter_cons_of_neg (by simp [hb]), List.flatMap_cons, List.flatMap_cons, List.append_assoc]
      exact ih.append_left _
    | false =>
      rw [List.filter_cons_of_neg (by simp [ha])]
      cases hb : b x with
      | true =>
        rw [List.filter_cons_of_pos hb, List.flatMap_cons, List.flatMap_cons]
        have : ((l.filter a).flatMap g ++ (g x ++ (l.filter b).flatMap g)).Perm (g x ++ ((l.filter a).flatMap g ++ (l.filter b).flatMap g)) := by
          rw [← List.append_assoc, ← List.append_assoc]
          exact List.perm_append_comm.append_right _
        exact this.trans (ih.append_left _)
      | false =>
        rw [List.filter_cons_of_neg (by simp [hb]), List.flatMap_cons, h0 x ha hb]
        exact ih

def Pg.isH : Pg → Bool | .head _ => true | _ => false
def Sp.headIx (pg : List Pg) : List Nat := (List.range pg.length).filter fun p => (pg.getD p .free).isH
theorem Sp.mem_headIx {pg : List Pg} {p : Nat} : p ∈ Sp.headIx pg ↔ ∃ k, pg[p]? = some (.head k) := by
  unfold Sp.headIx
  rw [List.mem_filter, List.mem_range]
  constructor
  · rintro ⟨h1, h2⟩
    rw [List.getD_eq_getElem?_getD, List.getElem?_eq_getElem h1] at h2
    rw [List.getElem?_eq_getElem h1]
    revert h2
    generalize pg[p] = x
    intro h2
    cases x with
    | head k => exact ⟨k, rfl⟩
    | _ => cases h2
  · rintro ⟨k, h⟩
    exact ⟨getElem?_lt h, by rw [List.getD_eq_getElem?_getD, h]; rfl⟩

def Sp.gE (pg : List Pg) (p : Nat) : List Int := Sp.at1 p (pg.getD p .free)
def Sp.atE (x : Int × Ent) : List Int := Sp.at1 x.1.toNat (.small x.2.2.1 x.2.2.2)

theorem nodup_of_map {α β : Type} {f : α → β} {l : List α} (h : (l.map f).Nodup) : l.Nodup := (List.pairwise_map.mp h).imp fun hab e => hab (by rw [e])

theorem smalls_each {pg : List Pg} {ls : List (Int × Ent)} (hS : Smalls pg ls) (nS : (ls.map (·.1)).Nodup) : (ls.flatMap Sp.atE).Perm ((Sp.smallIx pg).flatMap (Sp.gE pg)) := by
  have h1 : (ls.map fun x => (x.1, x.2.2)).Perm ((Sp.smallIx pg).map fun p : Nat => ((p : Int), match pg.getD p .free with | Pg.small c l => (c, l) | _ => (0, []))) := by
    rw [List.perm_ext_iff_of_nodup]
    · rintro ⟨i, c, l⟩
      rw [List.mem_map, List.mem_map]
      constructor
      · rintro ⟨⟨i', q, c', l'⟩, h1, h2⟩
        injection h2 with e1 e2
        dsimp only at e1 e2
        injection e2 with e2 e3
        subst e1; subst e2; subst e3
        obtain ⟨h0, h2⟩ := (hS i' c' l').mp ⟨q, h1⟩
        refine ⟨i'.toNat, Sp.mem_smallIx.mpr ⟨c', l', h2⟩, ?_⟩
        rw [getD_of h2]
        congr 1
        omega
      · rintro ⟨p, hp, e⟩
        obtain ⟨c', l', h⟩ := Sp.mem_smallIx.mp hp
        rw [getD_of h] at e
        injection e with e1 e2
        injection e2 with e2 e3
        subst e1; subst e2; subst e3
        obtain ⟨q, hq⟩ := (hS p c' l').mpr ⟨by omega, by simpa using h⟩
        exact ⟨_, hq, rfl⟩
    · refine nodup_of_map (f := (·.1)) ?_
      rw [List.map_map]; exact nS
    · refine nodup_of_map (f := (·.1)) ?_
      rw [List.map_map]
      exact List.Pairwise.map (R := (· < ·)) (S := (· ≠ ·)) _ (fun a b h => by simp only [Function.comp]; omega) (Sp.smallIx_sorted pg)
  have e1 : ls.flatMap Sp.atE = (ls.map fun x => (x.1, x.2.2)).flatMap fun y => Sp.at1 y.1.toNat (.small y.2.1 y.2.2) := by rw [List.flatMap_map]; rfl
  rw [e1]
  refine (h1.flatMap_right _).trans ?_
  rw [List.flatMap_map]
  have : ∀ l : List Nat, (∀ p ∈ l, p ∈ Sp.smallIx pg) → (l.flatMap fun p : Nat => Sp.at1 (((p : Nat) : Int)).toNat (.small (match pg.getD p .free with | Pg.small c l => (c, l) | _ => (0, [])).1 (match pg.getD p .free with | Pg.small c l => (c, l) | _ => (0, [])).2)) = l.flatMap (Sp.gE pg) := by
    intro l
    induction l with
    | nil => intro _; rfl
    | cons p l ih =>
      intro h
      rw [List.flatMap_cons, List.flatMap_cons, ih fun q hq => h q (List.mem_cons_of_mem _ hq)]
      obtain ⟨c', l', hp⟩ := Sp.mem_smallIx.mp (h p List.mem_cons_self)
      unfold Sp.gE
      rw [getD_of hp, Int.toNat_natCast]
  rw [this _ fun p hp => hp]

theorem larges_each {pg : List Pg} {ll : List (Int × Nat)} (hL : Larges pg ll) (nL : (ll.map (·.1)).Nodup) : (ll.map fun x => x.1 * 64).Perm ((Sp.headIx pg).flatMap (Sp.gE pg)) := by
  have h1 : (ll.map (·.1)).Perm ((Sp.headIx pg).map fun p : Nat => (p : Int)) := by
    rw [List.perm_ext_iff_of_nodup nL]
    · intro i
      rw [List.mem_map, List.mem_map]
      constructor
      · rintro ⟨⟨i', k⟩, h1, rfl⟩
        obtain ⟨h0, h2⟩ := (hL i' k).mp h1
        exact ⟨i'.toNat, Sp.mem_headIx.mpr ⟨k, h2⟩, by dsimp only; omega⟩
      · rintro ⟨p, hp, rfl⟩
        obtain ⟨k, h⟩ := Sp.mem_headIx.mp hp
        exact ⟨(p, k), (hL p k).mpr ⟨by omega, by simpa using h⟩, rfl⟩
    · exact List.Pairwise.map (R := (· < ·)) (S := (· ≠ ·)) _ (fun a b h => by omega) (List.Pairwise.filter _ List.pairwise_lt_range)
  have e1 : (ll.map fun x => x.1 * 64) = (ll.map (·.1)).map (· * 64) := by simp
  rw [e1]
  refine (h1.map _).trans ?_
  rw [List.map_map]
  have : ∀ l : List Nat, (∀ p ∈ l, p ∈ Sp.headIx pg) → l.map ((fun x : Int => x * 64) ∘ fun p : Nat => (p : Int)) = l.flatMap (Sp.gE pg) := by
    intro l
    induction l with
    | nil => intro _; rfl
    | cons p l ih =>
      intro h
      rw [List.map_cons, List.flatMap_cons, ih fun q hq => h q (List.mem_cons_of_mem _ hq)]
      obtain ⟨k, hp⟩ := Sp.mem_headIx.mp (h p List.mem_cons_self)
      unfold Sp.gE
      rw [getD_of hp]
      simp [Sp.at1]
  rw [this _ fun p hp => hp]

theorem each_perm {S : Spc} {ls : List (Int × Ent)} {ll : List (Int × Nat)} (hS : Smalls S.pg ls) (nS : (ls.map (·.1)).Nodup) (hL : Larges S.pg ll) (nL : (ll.map (·.1)).Nodup) : (ls.flatMap Sp.atE ++ (ll.map fun x : Int × Nat => x.1 * 64)).Perm (Sp.each S) := by
  refine ((smalls_each hS nS).append (larges_each hL nL)).trans ?_
  refine parts_perm (fun p h1 h2 => ?_) (fun p h1 h2 => ?_) _
  · revert h1 h2
    cases S.pg.getD p .free <;> simp [Pg.isS, Pg.isH]
  · revert h1 h2
    unfold Sp.gE
    cases S.pg.getD p .free <;> simp [Pg.isS, Pg.isH, Sp.at1]

/-- what a page's blocks are -/
theorem Sp.mem_at1 {S : Spc} (hw : Wf S) {p : Nat} {a : Int} (h : a ∈ Sp.gE S.pg p) : ∃ n : Nat, a = n ∧ n / 64 = p ∧ n < S.ws.length ∧ ∃ w, Sp.find S n = some (n, w) ∧ 2 ≤ w ∧ w ≤ 1024 ∧ n + w ≤ S.ws.length := by
  have hlen := hw.len
  unfold Sp.gE at h
  rcases Nat.lt_or_ge p S.pg.length with hp | hp
  rotate_left
  · rw [List.getD_eq_getElem?_getD, List.getElem?_eq_none hp] at h; cases h
  have hpg := of_getD hp
  revert h hpg
  generalize S.pg.getD p .free = x
  intro h hpg
  cases x with
  | small c l =>
    obtain ⟨hc, hl⟩ := hw.small _ _ _ hpg
    simp only [Sp.at1, List.mem_filterMap, List.mem_range] at h
    obtain ⟨k, hk, h⟩ := h
    split at h
    · rename_i hb
      injection h with h
      obtain ⟨f1, f2, f3⟩ := sz_fit hc hk hl
      have e1 : (p * 64 + k * Sp.sz c) / 64 = p := by omega
      have e2 : (p * 64 + k * Sp.sz c) % 64 = k * Sp.sz c := by omega
      refine ⟨p * 64 + k * Sp.sz c, h.symm, e1, by omega, Sp.sz c, ?_, f2, by omega, by omega⟩
      rw [Sp.find_small (by omega) (by rw [e1]; exact hpg), e1, e2, Nat.mul_div_cancel _ (by omega), if_pos hb]
    · cases h
  | head k =>
    obtain ⟨k1, k2, k3, k4⟩ := hw.head _ _ hpg
    simp only [Sp.at1, List.mem_singleton] at h
    have e1 : p * 64 / 64 = p := by omega
    refine ⟨p * 64, h, e1, by omega, k * 64, ?_, by omega, by omega, by omega⟩
    rw [Sp.find_other (by omega) (by rw [e1]; intro c l hc; rw [hpg] at hc; cases hc), e1, Sp.own_of hw hpg ⟨by omega, by omega⟩]
    rfl
  | _ => cases h
theorem Sp.mem_each {S : Spc} {a : Int} : a ∈ Sp.each S ↔ ∃ p, p < S.pg.length ∧ a ∈ Sp.gE S.pg p := by
  unfold Sp.each
  rw [List.mem_flatMap]
  constructor
  · rintro ⟨p, hp, h⟩; exact ⟨p, by simpa using hp, h⟩
  · rintro ⟨p, hp, h⟩; exact ⟨p, by simpa using hp, h⟩
theorem Sp.each_find {S : Spc} (hw : Wf S) {a : Int} (h : a ∈ Sp.each S) : ∃ n : Nat, a = n ∧ n < S.ws.length ∧ ∃ w, Sp.find S n = some (n, w) ∧ 2 ≤ w ∧ w ≤ 1024 ∧ n + w ≤ S.ws.length := by
  obtain ⟨p, _, hp⟩ := Sp.mem_each.mp h
  obtain ⟨n, h1, _, h2, h3⟩ := Sp.mem_at1 hw hp
  exact ⟨n, h1, h2, h3⟩
theorem Sp.each_sorted {S : Spc} (hw : Wf S) : (Sp.each S).Pairwise (· < ·) := by
  unfold Sp.each
  rw [List.pairwise_flatMap]
  constructor
  · intro p hp
    unfold Sp.at1
    split
    · rename_i c l hpg
      have hpl : p < S.pg.length := by simpa using hp
      have := of_getD hpl
      rw [hpg] at this
      have hc := (hw.small _ _ _ this).1
      have hz := Sp.sz_cases hc
      refine List.Pairwise.filterMap (R := (· < ·)) _ ?_ List.pairwise_lt_range
      intro a b hab x hx y hy
      split at hx
      · split at hy
        · simp at hx hy
          have := Nat.mul_lt_mul_of_pos_right hab (show 0 < Sp.sz c by omega)
          subst hx; subst hy
          omega
        · cases hy
      · cases hx
    · exact List.pairwise_singleton _ _
    · exact .nil
  · refine List.pairwise_lt_range.imp fun {p q} hpq x hx y hy => ?_
    obtain ⟨n, h1, h2, _⟩ := Sp.mem_at1 hw hx
    obtain ⟨m, g1, g2, _⟩ := Sp.mem_at1 hw hy
    omega
theorem Sp.at1_len {S : Spc} (hw : Wf S) (p : Nat) : (Sp.gE S.pg p).length ≤ 32 := by
  unfold Sp.gE
  rcases Nat.lt_or_ge p S.pg.length with hp | hp
  · have hpg := of_getD hp
    revert hpg
    generalize S.pg.getD p .free = x
    intro hpg
    cases x with
    | small c l =>
      obtain ⟨hc, hl⟩ := hw.small _ _ _ hpg
      unfold Sp.at1
      refine Nat.le_trans (List.length_filterMap_le _ _) ?_
      rw [List.length_range, hl]
      have hz := Sp.sz_cases hc
      rcases hz with ⟨_, e⟩ | ⟨_, e⟩ | ⟨_, e⟩ | ⟨_, e⟩ | ⟨_, e⟩ <;> rw [e] <;> decide
    | head k => simp [Sp.at1]
    | _ => simp [Sp.at1]
  · rw [List.getD_eq_getElem?_getD, List.getElem?_eq_none hp]; simp [Sp.at1]
theorem flat_len_le {α β : Type} {g : α → List β} {m : Nat} (h : ∀ x, (g x).length ≤ m) : ∀ l : List α, (l.flatMap g).length ≤ l.length * m
  | [] => by simp
  | x :: l => by
    rw [List.flatMap_cons, List.length_append, List.length_cons, Nat.add_mul]
    have := flat_len_le h l
    have := h x
    omega
theorem Sp.each_len {S : Spc} (hw : Wf S) : (Sp.each S).length ≤ 8192 := by
  have := flat_len_le (Sp.at1_len hw) (List.range S.pg.length)
  have h2 := hw.most
  rw [List.length_range] at this
  have e : Sp.each S = (List.range S.pg.length).flatMap (Sp.gE S.pg) := rfl
  rw [e]
  omega

end Go.Proofs.Ytncpnmpfghppeaa
