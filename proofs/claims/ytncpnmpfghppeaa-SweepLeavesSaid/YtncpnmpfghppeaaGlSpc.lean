/- Spaces: what they are, plainly. -/
import Derived.Test.YtncpnmpfghppeaaGlClass
set_option linter.unusedSimpArgs false
set_option linter.unusedVariables false
namespace Go.Gl
open Go
section
variable {α : Type}
theorem aget_mem {k : Int} {a : α} : ∀ {l : List (Int × α)}, (l.map (·.1)).Nodup → (aget k l = some a ↔ (k, a) ∈ l)
  | [], _ => by simp [aget]
  | x :: l, hn => by
    simp only [List.map_cons, List.nodup_cons] at hn
    unfold aget
    by_cases hx : x.1 = k
    · rw [if_pos hx]
      constructor
      · intro h; injection h with h; subst hx; subst h; exact List.mem_cons_self
      · intro h
        rcases List.mem_cons.mp h with h | h
        · rw [← h]
        · exact absurd (by rw [hx]; exact List.mem_map_of_mem (f := (·.1)) h) hn.1
    · rw [if_neg hx, aget_mem hn.2]
      constructor
      · exact List.mem_cons_of_mem _
      · intro h
        rcases List.mem_cons.mp h with h | h
        · exact absurd (by rw [← h]) hx
        · exact h
theorem aget_none {k : Int} : ∀ {l : List (Int × α)}, aget k l = none ↔ ∀ a, (k, a) ∉ l
  | [] => by simp [aget]
  | x :: l => by
    unfold aget
    by_cases hx : x.1 = k
    · rw [if_pos hx]
      simp only [reduceCtorEq, false_iff]
      intro h; exact h x.2 (by rw [← hx]; exact List.mem_cons_self)
    · rw [if_neg hx, aget_none]
      constructor
      · intro h a ha
        rcases List.mem_cons.mp ha with ha | ha
        · exact hx (by rw [← ha])
        · exact h a ha
      · exact fun h a ha => h a (List.mem_cons_of_mem _ ha)
theorem aset_mem {k i : Int} {a b : α} : ∀ {l : List (Int × α)}, (l.map (·.1)).Nodup → ((i, b) ∈ aset k a l ↔ (i = k ∧ b = a) ∨ (i ≠ k ∧ (i, b) ∈ l))
  | [], _ => by simp [aset]
  | x :: l, hn => by
    simp only [List.map_cons, List.nodup_cons] at hn
    unfold aset
    by_cases hx : x.1 = k
    · rw [if_pos hx]
      simp only [List.mem_cons, Prod.mk.injEq]
      constructor
      · rintro (h | h)
        · exact .inl h
        · refine .inr ⟨?_, .inr h⟩
          rintro rfl
          exact hn.1 (by rw [hx]; exact List.mem_map_of_mem (f := (·.1)) h)
      · rintro (h | ⟨h1, h | h⟩)
        · exact .inl h
        · exact absurd (by rw [← hx, ← h]) h1
        · exact .inr h
    · rw [if_neg hx, List.mem_cons, aset_mem hn.2, List.mem_cons]
      constructor
      · rintro (h | h | h)
        · refine .inr ⟨?_, .inl h⟩
          rintro rfl; exact hx (by rw [← h])
        · exact .inl h
        · exact .inr ⟨h.1, .inr h.2⟩
      · rintro (h | ⟨h1, h | h⟩)
        · exact .inr (.inl h)
        · exact .inl h
        · exact .inr (.inr ⟨h1, h⟩)
theorem adel_mem {k i : Int} {b : α} : ∀ {l : List (Int × α)}, (l.map (·.1)).Nodup → ((i, b) ∈ adel k l ↔ i ≠ k ∧ (i, b) ∈ l)
  | [], _ => by simp [adel]
  | x :: l, hn => by
    simp only [List.map_cons, List.nodup_cons] at hn
    unfold adel
    by_cases hx : x.1 = k
    · rw [if_pos hx]
      constructor
      · intro h
        refine ⟨?_, List.mem_cons_of_mem _ h⟩
        rintro rfl
        exact hn.1 (by rw [hx]; exact List.mem_map_of_mem (f := (·.1)) h)
      · rintro ⟨h1, h⟩
        rcases List.mem_cons.mp h with h | h
        · exact absurd (by rw [← hx, ← h]) h1
        · exact h
    · rw [if_neg hx, List.mem_cons, adel_mem hn.2, List.mem_cons]
      constructor
      · rintro (h | h)
        · refine ⟨?_, .inl h⟩
          rintro rfl; exact hx (by rw [← h])
        · exact ⟨h.1, .inr h.2⟩
      · rintro ⟨h1, h | h⟩
        · exact .inl h
        · exact .inr ⟨h1, h⟩
/-- where a key is -/
theorem aget_split {k : Int} {a : α} : ∀ {l : List (Int × α)}, aget k l = some a → ∃ l1 l2, l = l1 ++ (k, a) :: l2 ∧ (∀ a', aset k a' l = l1 ++ (k, a') :: l2) ∧ adel k l = l1 ++ l2
  | [], h => by cases h
  | x :: l, h => by
    unfold aget at h
    by_cases hx : x.1 = k
    · rw [if_pos hx] at h
      injection h with h
      refine ⟨[], l, by rw [← hx, ← h]; rfl, fun a' => by simp [aset, hx], by simp [adel, hx]⟩
    · rw [if_neg hx] at h
      obtain ⟨l1, l2, h1, h2, h3⟩ := aget_split h
      exact ⟨x :: l1, l2, by rw [h1]; rfl, fun a' => by simp [aset, hx, h2 a'], by simp [adel, hx, h3]⟩
theorem aset_new {k : Int} {a : α} : ∀ {l : List (Int × α)}, aget k l = none → aset k a l = l ++ [(k, a)]
  | [], _ => rfl
  | x :: l, h => by
    unfold aget at h
    by_cases hx : x.1 = k
    · rw [if_pos hx] at h; cases h
    · rw [if_neg hx] at h
      simp [aset, hx, aset_new h]
end
variable {ρ0 ρ : FR} {L L' : List Asn} {Post : Value → List Asn → Prop}
/-- a map has no key twice -/
theorem Tr.keys {α : Type} {b : Nat} {f : α → Value} {l : List (Int × α)} {T : Tree} (t : Take L (IM b f l) L') (h : (l.map (·.1)).Nodup → Tr ρ0 ρ L T Post) : Tr ρ0 ρ L T Post := fun hle w hw => by
  obtain ⟨es, clock, he, _⟩ := (hw.perm t.perm).im
  exact h he.keys hle w hw
/-- what a map's entries are but for memory -/
theorem IM.ghost {α β : Type} {b : Nat} {f : α → Value} {g : β → Value} {l : List (Int × α)} {l' : List (Int × β)} (h : l.map (fun x => (x.1, f x.2)) = l'.map fun x => (x.1, g x.2)) (hp : HP) (H : IM b f l hp) : IM b g l' hp := by
  obtain ⟨es, clock, ⟨h1, h2, h3, h4⟩, hm⟩ := H
  refine ⟨es, clock, ⟨?_, h2, h3, ?_⟩, hm⟩
  · have := congrArg (List.map fun x : Int × Value => (Value.int .i64 x.1, x.2)) h
    simp only [List.map_map] at this
    rw [h1]; exact this
  · have := congrArg (List.map fun x : Int × Value => x.1) h
    simp only [List.map_map] at this
    have e : l.map (·.1) = l'.map (·.1) := this
    rw [← e]; exact h4
end Go.Gl
namespace Go.Proofs.Ytncpnmpfghppeaa
open Go Go.Gl

/-- what a page is -/
inductive Pg | res | free | small (c : Nat) (l : List Bool) | head (k : Nat) | tail
  deriving DecidableEq
def Pg.taken : Pg → Bool | .free => false | _ => true
/-- a space: its words, its pages -/
structure Spc where
  ws : List Int
  pg : List Pg

/-- is all as it should be? (e: may small pages have no block that is taken?) -/
structure Wf (S : Spc) : Prop where
  len : S.ws.length = 64 * S.pg.length
  most : S.pg.length ≤ 256
  pos : 1 ≤ S.pg.length
  res : ∀ i : Nat, S.pg[i]? = some .res ↔ i = 0
  small : ∀ (i c : Nat) (l : List Bool), S.pg[i]? = some (.small c l) → c < 5 ∧ l.length = 64 / Sp.sz c
  head : ∀ i k : Nat, S.pg[i]? = some (.head k) → 1 ≤ k ∧ k ≤ 16 ∧ i + k ≤ S.pg.length ∧ ∀ j : Nat, i < j → j < i + k → S.pg[j]? = some .tail
  tail : ∀ j : Nat, S.pg[j]? = some .tail → ∃ i k : Nat, S.pg[i]? = some (.head k) ∧ i < j ∧ j < i + k

/-- the head of the larger block in which a page lies -/
def Sp.own (pg : List Pg) (p : Nat) : Option (Nat × Nat) := (List.range pg.length).findSome? fun (j : Nat) => match pg[j]? with | some (Pg.head k) => if j ≤ p ∧ p < j + k then some (j, k) else none | _ => none
theorem Sp.own_is {pg : List Pg} {p j k : Nat} (h : Sp.own pg p = some (j, k)) : pg[j]? = some (.head k) ∧ j ≤ p ∧ p < j + k := by
  unfold Sp.own at h
  obtain ⟨i, _, hi⟩ := List.exists_of_findSome?_eq_some h
  split at hi
  · rename_i k' hk
    split at hi
    · rename_i hc
      injection hi with hi
      injection hi with h1 h2
      subst h1; subst h2
      exact ⟨hk, hc⟩
    · cases hi
  · cases hi
theorem Wf.uniq {S : Spc} (h : Wf S) {i k i' k' p : Nat} (h1 : S.pg[i]? = some (.head k)) (h2 : S.pg[i']? = some (.head k')) (g1 : i ≤ p ∧ p < i + k) (g2 : i' ≤ p ∧ p < i' + k') : i = i' ∧ k = k' := by
  have e : i = i' := by
    rcases Nat.lt_trichotomy i i' with c | c | c
    · have := (h.head i k h1).2.2.2 i' c (by omega)
      rw [h2] at this; cases this
    · exact c
    · have := (h.head i' k' h2).2.2.2 i c (by omega)
      rw [h1] at this; cases this
  subst e
  rw [h1] at h2
  injection h2 with h2
  injection h2 with h2
  exact ⟨rfl, h2⟩
theorem getElem?_lt {α : Type} {l : List α} {i : Nat} {x : α} (h : l[i]? = some x) : i < l.length := by
  rcases Nat.lt_or_ge i l.length with c | c
  · exact c
  · rw [List.getElem?_eq_none c] at h; cases h
theorem Sp.own_of {S : Spc} (hw : Wf S) {p j k : Nat} (h : S.pg[j]? = some (.head k)) (hp : j ≤ p ∧ p < j + k) : Sp.own S.pg p = some (j, k) := by
  cases hn : Sp.own S.pg p with
  | none =>
    unfold Sp.own at hn
    rw [List.findSome?_eq_none_iff] at hn
    have := hn j (by simp [getElem?_lt h])
    rw [h] at this
    simp [hp] at this
  | some x =>
    obtain ⟨h1, h2⟩ := Sp.own_is (j := x.1) (k := x.2) hn
    obtain ⟨e1, e2⟩ := hw.uniq h h1 hp h2
    rw [e1, e2]
theorem Sp.own_no {pg : List Pg} {p : Nat} (h : ∀ j k : Nat, pg[j]? = some (.head k) → ¬ (j ≤ p ∧ p < j + k)) : Sp.own pg p = none := by
  cases hn : Sp.own pg p with
  | none => rfl
  | some x => have := Sp.own_is (j := x.1) (k := x.2) hn; exact absurd this.2 (h _ _ this.1)

/-- the block in which an address lies: where it begins, its words -/
def Sp.find (S : Spc) (a : Int) : Option (Nat × Nat) :=
  if 0 ≤ a ∧ a < S.ws.length then
    match S.pg[a.toNat / 64]? with
    | some (.small c l) => if l.getD (a.toNat % 64 / Sp.sz c) false then some (a.toNat / 64 * 64 + a.toNat % 64 / Sp.sz c * Sp.sz c, Sp.sz c) else none
    | _ => (Sp.own S.pg (a.toNat / 64)).map fun x => (x.1 * 64, x.2 * 64)
  else none

/-- the first page of a class that has a block left -/
def Sp.openP (pg : List Pg) (c : Nat) : Option Nat := (List.range pg.length).find? fun (p : Nat) => match pg[p]? with | some (Pg.small c' l) => c' == c && !decide (l.count true = l.length) | _ => false
/-- a larger block -/
def Sp.putL (pg : List Pg) (p k : Nat) : List Pg := pg.mapIdx fun j x => if j = p then .head k else if p < j ∧ j < p + k then .tail else x
def Sp.freeL (pg : List Pg) (p k : Nat) : List Pg := pg.mapIdx fun j x => if p ≤ j ∧ j < p + k then .free else x
/-- a block of a small page: its address, an error, the pages behind it -/
def Sp.placeS (pg : List Pg) (p c : Nat) (l : List Bool) : Int × Int × List Pg :=
  ((p * 64 + (Sp.next l 0 false).toNat * Sp.sz c : Nat), 0, pg.set p (.small c (l.set (Sp.next l 0 false).toNat true)))
def Sp.blocks (pg : List Pg) (p : Nat) : List Bool := match pg[p]? with | some (Pg.small _ l) => l | _ => []
/-- where the next block comes: its address, an error, the pages behind it -/
def Sp.place (pg : List Pg) (w : Int) : Int × Int × List Pg :=
  if Sp.cls w < 0 then
    match Sp.run (pg.map Pg.taken) (Sp.pgs w).toNat with
    | some p => ((p * 64 : Nat), 0, Sp.putL pg p (Sp.pgs w).toNat)
    | none => (0, 3, pg)
  else
    match Sp.openP pg (Sp.cls w).toNat with
    | some p => Sp.placeS pg p (Sp.cls w).toNat (Sp.blocks pg p)
    | none => (match Sp.run (pg.map Pg.taken) 1 with
      | some p => Sp.placeS pg p (Sp.cls w).toNat (List.replicate (64 / Sp.sz (Sp.cls w).toNat) false)
      | none => (0, 3, pg))
/-- a block: its address, an error, the space behind it -/
def Sp.alloc (S : Spc) (w : Int) : Int × Int × Spc :=
  if Sp.blk w = 0 then (0, 1, S)
  else if (Sp.place S.pg w).2.1 = 0 then ((Sp.place S.pg w).1, 0, ⟨Sp.clr S.ws (Sp.place S.pg w).1.toNat (Sp.blk w).toNat, (Sp.place S.pg w).2.2⟩)
  else (0, (Sp.place S.pg w).2.1, S)
/-- a block is given up: an error, the space behind it -/
def Sp.freeS (S : Spc) (a : Int) : Int × Spc :=
  match Sp.find S a with
  | some (s, _) => if (s : Int) = a then
      (match S.pg[a.toNat / 64]? with
       | some (.small c l) => (0, ⟨S.ws, S.pg.set (a.toNat / 64) (if (l.set (a.toNat % 64 / Sp.sz c) false).count true = 0 then .free else .small c (l.set (a.toNat % 64 / Sp.sz c) false))⟩)
       | some (.head k) => (0, ⟨S.ws, Sp.freeL S.pg (a.toNat / 64) k⟩)
       | _ => (0, S))
    else (2, S)
  | none => (2, S)
/-- where the blocks of a page begin -/
def Sp.at1 (p : Nat) : Pg → List Int
  | .small c l => (List.range l.length).filterMap fun i => if l.getD i false then some ((p * 64 + i * Sp.sz c : Nat) : Int) else none
  | .head _ => [((p * 64 : Nat) : Int)]
  | _ => []
/-- where all blocks begin -/
def Sp.each (S : Spc) : List Int := (List.range S.pg.length).flatMap fun p => Sp.at1 p (S.pg.getD p .free)

theorem Sp.find_small {S : Spc} {n c : Nat} {l : List Bool} (h0 : n < S.ws.length) (hp : S.pg[n / 64]? = some (.small c l)) :
    Sp.find S n = if l.getD (n % 64 / Sp.sz c) false then some (n / 64 * 64 + n % 64 / Sp.sz c * Sp.sz c, Sp.sz c) else none := by
  unfold Sp.find
  rw [if_pos ⟨by omega, by omega⟩, Int.toNat_natCast, hp]
theorem Sp.find_other {S : Spc} {n : Nat} (h0 : n < S.ws.length) (hp : ∀ c l, S.pg[n / 64]? ≠ some (.small c l)) : Sp.find S n = (Sp.own S.pg (n / 64)).map fun x => (x.1 * 64, x.2 * 64) := by
  unfold Sp.find
  rw [if_pos ⟨by omega, by omega⟩, Int.toNat_natCast]
  split
  · rename_i c l h; exact absurd h (hp c l)
  · rfl
theorem Sp.find_out {S : Spc} {a : Int} (h : ¬ (0 ≤ a ∧ a < S.ws.length)) : Sp.find S a = none := by
  unfold Sp.find
  rw [if_neg h]

/-! ### the maps of a space -/
/-- a small page: its block, its class, its blocks -/
abbrev Ent := Nat × Nat × List Bool
def Smalls (pg : List Pg) (ls : List (Int × Ent)) : Prop := ∀ (i : Int) (c : Nat) (l : List Bool), (∃ q, (i, q, c, l) ∈ ls) ↔ (0 ≤ i ∧ pg[i.toNat]? = some (.small c l))
def Larges (pg : List Pg) (ll : List (Int × Nat)) : Prop := ∀ (i : Int) (k : Nat), (i, k) ∈ ll ↔ (0 ≤ i ∧ pg[i.toNat]? = some (.head k))
def fS (x : Ent) : Value := .pointer (some ⟨x.1, 0, none⟩)
def fL (k : Nat) : Value := i64 k

theorem Smalls.get {pg : List Pg} {ls : List (Int × Ent)} (h : Smalls pg ls) (hn : (ls.map (·.1)).Nodup) {p c : Nat} {l : List Bool} (hp : pg[p]? = some (.small c l)) : ∃ q, aget (p : Int) ls = some (q, c, l) := by
  obtain ⟨q, hq⟩ := (h p c l).mpr ⟨by omega, by simpa using hp⟩
  exact ⟨q, (aget_mem hn).mpr hq⟩
theorem Smalls.none {pg : List Pg} {ls : List (Int × Ent)} (h : Smalls pg ls) {p : Nat} (hp : ∀ c l, pg[p]? ≠ some (.small c l)) : aget (p : Int) ls = none := by
  rw [aget_none]
  rintro ⟨q, c, l⟩ hm
  have := ((h p c l).mp ⟨q, hm⟩).2
  exact hp c l (by simpa using this)
theorem Larges.get {pg : List Pg} {ll : List (Int × Nat)} (h : Larges pg ll) (hn : (ll.map (·.1)).Nodup) {p k : Nat} (hp : pg[p]? = some (.head k)) : aget (p : Int) ll = some k :=
  (aget_mem hn).mpr ((h p k).mpr ⟨by omega, by simpa using hp⟩)
theorem Smalls.set {pg : List Pg} {ls : List (Int × Ent)} (h : Smalls pg ls) (hn : (ls.map (·.1)).Nodup) {p c q : Nat} {l : List Bool} (hp : p < pg.length) : Smalls (pg.set p (.small c l)) (aset (p : Int) (q, c, l) ls) := by
  intro i c' l'
  by_cases hi : i = p
  · subst hi
    simp only [Int.toNat_natCast, List.getElem?_set, hp]
    constructor
    · rintro ⟨q', hq⟩
      rw [aset_mem hn] at hq
      rcases hq with ⟨_, hq⟩ | ⟨hq, _⟩
      · injection hq with h1 h2; injection h2 with h2 h3
        exact ⟨by omega, by simp [h2, h3]⟩
      · exact absurd rfl hq
    · rintro ⟨_, hq⟩
      simp at hq
      exact ⟨q, (aset_mem hn).mpr (.inl ⟨rfl, by rw [hq.1, hq.2]⟩)⟩
  · have : (∃ q', (i, q', c', l') ∈ aset (p : Int) (q, c, l) ls) ↔ ∃ q', (i, q', c', l') ∈ ls := by
      constructor
      · rintro ⟨q', hq⟩
        rw [aset_mem hn] at hq
        rcases hq with ⟨hq, _⟩ | ⟨_, hq⟩
        · exact absurd hq hi
        · exact ⟨q', hq⟩
      · rintro ⟨q', hq⟩
        exact ⟨q', (aset_mem hn).mpr (.inr ⟨hi, hq⟩)⟩
    rw [this, h i c' l']
    constructor
    · rintro ⟨h0, h1⟩
      exact ⟨h0, by rw [List.getElem?_set_ne (by omega)]; exact h1⟩
    · rintro ⟨h0, h1⟩
      exact ⟨h0, by rw [List.getElem?_set_ne (by omega)] at h1; exact h1⟩
theorem Smalls.del {pg : List Pg} {ls : List (Int × Ent)} (h : Smalls pg ls) (hn : (ls.map (·.1)).Nodup) {p : Nat} {x : Pg} (hx : ∀ c l, x ≠ .small c l) : Smalls (pg.set p x) (adel (p : Int) ls) := by
  intro i c' l'
  have : (∃ q', (i, q', c', l') ∈ adel (p : Int) ls) ↔ i ≠ p ∧ ∃ q', (i, q', c', l') ∈ ls := by
    constructor
    · rintro ⟨q', hq⟩; rw [adel_mem hn] at hq; exact ⟨hq.1, q', hq.2⟩
    · rintro ⟨h1, q', hq⟩; exact ⟨q', (adel_mem hn).mpr ⟨h1, hq⟩⟩
  rw [this, h i c' l']
  by_cases hi : i = p
  · subst hi
    simp only [ne_eq, not_true_eq_false, false_and, false_iff, Int.toNat_natCast, List.getElem?_set]
    rintro ⟨_, h1⟩
    simp at h1
    exact hx _ _ h1.2
  · constructor
    · rintro ⟨_, h0, h1⟩; exact ⟨h0, by rw [List.getElem?_set_ne (by omega)]; exact h1⟩
    · rintro ⟨h0, h1⟩; exact ⟨hi, h0, by rw [List.getElem?_set_ne (by omega)] at h1; exact h1⟩
/-- pages that are small stay so, and no others come -/
theorem Smalls.same {pg pg' : List Pg} {ls : List (Int × Ent)} (h : Smalls pg ls) (e : ∀ (j : Nat) c l, pg[j]? = some (.small c l) ↔ pg'[j]? = some (.small c l)) : Smalls pg' ls := fun i c l => by rw [h i c l, e]
theorem Larges.same {pg pg' : List Pg} {ll : List (Int × Nat)} (h : Larges pg ll) (e : ∀ (j : Nat) k, pg[j]? = some (.head k) ↔ pg'[j]? = some (.head k)) : Larges pg' ll := fun i k => by rw [h i k, e]
theorem Larges.set {pg pg' : List Pg} {ll : List (Int × Nat)} (h : Larges pg ll) (hn : (ll.map (·.1)).Nodup) {p k : Nat} (hp : pg'[p]? = some (.head k)) (e : ∀ (j : Nat) k', j ≠ p → (pg[j]? = some (.head k') ↔ pg'[j]? = some (.head k'))) : Larges pg' (aset (p : Int) k ll) := by
  intro i k'
  rw [aset_mem hn, h i k']
  by_cases hi : i = p
  · subst hi
    rw [Int.toNat_natCast, hp]
    constructor
    · rintro (⟨_, rfl⟩ | ⟨h1, _⟩)
      · exact ⟨by omega, rfl⟩
      · exact absurd rfl h1
    · rintro ⟨_, h1⟩
      injection h1 with h1; injection h1 with h1
      exact .inl ⟨rfl, h1.symm⟩
  · constructor
    · rintro (⟨h1, _⟩ | ⟨_, h1, h2⟩)
      · exact absurd h1 hi
      · exact ⟨h1, (e _ _ (by omega)).mp h2⟩
    · rintro ⟨h1, h2⟩
      exact .inr ⟨hi, h1, (e _ _ (by omega)).mpr h2⟩
theorem Larges.del {pg pg' : List Pg} {ll : List (Int × Nat)} (h : Larges pg ll) (hn : (ll.map (·.1)).Nodup) {p : Nat} (hp : ∀ k, pg'[p]? ≠ some (.head k)) (e : ∀ (j : Nat) k', j ≠ p → (pg[j]? = some (.head k') ↔ pg'[j]? = some (.head k'))) : Larges pg' (adel (p : Int) ll) := by
  intro i k'
  rw [adel_mem hn, h i k']
  by_cases hi : i = p
  · subst hi
    rw [Int.toNat_natCast]
    constructor
    · rintro ⟨h1, _⟩; exact absurd rfl h1
    · rintro ⟨_, h1⟩; exact absurd h1 (hp _)
  · constructor
    · rintro ⟨_, h1, h2⟩; exact ⟨h1, (e _ _ (by omega)).mp h2⟩
    · rintro ⟨h1, h2⟩; exact ⟨hi, h1, (e _ _ (by omega)).mpr h2⟩

end Go.Proofs.Ytncpnmpfghppeaa
