/- Spc Sort Space Space2 Space3 Space4. -/
import Derived.Test.YtdplphebjhfliaaGreatGsClass
import Derived.Test.YtdplphebjhfliaaGreatGsLay
set_option linter.unusedSimpArgs false
set_option linter.unusedVariables false
namespace Go.Gl
open Go
section
variable {α : Type}
theorem aget_mem {k : Int} {a : α} : ∀ {l : List (Int × α)}, (l.map (·.1)).Nodup → (aget k l = some a ↔ (k, a) ∈ l)
 | [], _ => by simp [aget]
 | x :: l, hn => by
  simp only [List.map_cons, List.nodup_cons] at hn
  unfold aget
  by_cases hx : x.1 = k
  ·rw [if_pos hx]
   constructor
   ·intro h; injection h with h; subst hx; subst h; exact List.mem_cons_self
   ·intro h
    rcases List.mem_cons.mp h with h | h
    ·rw [← h]
    ·exact absurd (by rw [hx]; exact List.mem_map_of_mem (f := (·.1)) h) hn.1
  ·rw [if_neg hx, aget_mem hn.2]
   constructor
   ·exact List.mem_cons_of_mem _
   ·intro h
    rcases List.mem_cons.mp h with h | h
    ·exact absurd (by rw [← h]) hx
    ·exact h
theorem aget_none {k : Int} : ∀ {l : List (Int × α)}, aget k l = none ↔ ∀ a, (k, a) ∉ l
 | [] => by simp [aget]
 | x :: l => by
  unfold aget
  by_cases hx : x.1 = k
  ·rw [if_pos hx]
   simp only [reduceCtorEq, false_iff]
   intro h; exact h x.2 (by rw [← hx]; exact List.mem_cons_self)
  ·rw [if_neg hx, aget_none]
   constructor
   ·intro h a ha
    rcases List.mem_cons.mp ha with ha | ha
    ·exact hx (by rw [← ha])
    ·exact h a ha
   ·exact fun h a ha => h a (List.mem_cons_of_mem _ ha)
theorem aset_mem {k i : Int} {a b : α} : ∀ {l : List (Int × α)}, (l.map (·.1)).Nodup → ((i, b) ∈ aset k a l ↔ (i = k ∧ b = a) ∨ (i ≠ k ∧ (i, b) ∈ l))
 | [], _ => by simp [aset]
 | x :: l, hn => by
  simp only [List.map_cons, List.nodup_cons] at hn
  unfold aset
  by_cases hx : x.1 = k
  ·rw [if_pos hx]
   simp only [List.mem_cons, Prod.mk.injEq]
   constructor
   ·rintro (h | h)
    ·exact .inl h
    ·refine .inr ⟨?_, .inr h⟩
     rintro rfl
     exact hn.1 (by rw [hx]; exact List.mem_map_of_mem (f := (·.1)) h)
   ·rintro (h | ⟨h1, h | h⟩)
    ·exact .inl h
    ·exact absurd (by rw [← hx, ← h]) h1
    ·exact .inr h
  ·rw [if_neg hx, List.mem_cons, aset_mem hn.2, List.mem_cons]
   constructor
   ·rintro (h | h | h)
    ·refine .inr ⟨?_, .inl h⟩
     rintro rfl; exact hx (by rw [← h])
    ·exact .inl h
    ·exact .inr ⟨h.1, .inr h.2⟩
   ·rintro (h | ⟨h1, h | h⟩)
    ·exact .inr (.inl h)
    ·exact .inl h
    ·exact .inr (.inr ⟨h1, h⟩)
theorem adel_mem {k i : Int} {b : α} : ∀ {l : List (Int × α)}, (l.map (·.1)).Nodup → ((i, b) ∈ adel k l ↔ i ≠ k ∧ (i, b) ∈ l)
 | [], _ => by simp [adel]
 | x :: l, hn => by
  simp only [List.map_cons, List.nodup_cons] at hn
  unfold adel
  by_cases hx : x.1 = k
  ·rw [if_pos hx]
   constructor
   ·intro h
    refine ⟨?_, List.mem_cons_of_mem _ h⟩
    rintro rfl
    exact hn.1 (by rw [hx]; exact List.mem_map_of_mem (f := (·.1)) h)
   ·rintro ⟨h1, h⟩
    rcases List.mem_cons.mp h with h | h
    ·exact absurd (by rw [← hx, ← h]) h1
    ·exact h
  ·rw [if_neg hx, List.mem_cons, adel_mem hn.2, List.mem_cons]
   constructor
   ·rintro (h | h)
    ·refine ⟨?_, .inl h⟩
     rintro rfl; exact hx (by rw [← h])
    ·exact ⟨h.1, .inr h.2⟩
   ·rintro ⟨h1, h | h⟩
    ·exact .inl h
    ·exact .inr ⟨h1, h⟩
theorem aget_split {k : Int} {a : α} : ∀ {l : List (Int × α)}, aget k l = some a → ∃ l1 l2, l = l1 ++ (k, a) :: l2 ∧ (∀ a', aset k a' l = l1 ++ (k, a') :: l2) ∧ adel k l = l1 ++ l2
 | [], h => by cases h
 | x :: l, h => by
  unfold aget at h
  by_cases hx : x.1 = k
  ·rw [if_pos hx] at h
   injection h with h
   refine ⟨[], l, by rw [← hx, ← h]; rfl, fun a' => by simp [aset, hx], by simp [adel, hx]⟩
  ·rw [if_neg hx] at h
   obtain ⟨l1, l2, h1, h2, h3⟩ := aget_split h
   exact ⟨x :: l1, l2, by rw [h1]; rfl, fun a' => by simp [aset, hx, h2 a'], by simp [adel, hx, h3]⟩
end
variable {ρ0 ρ : FR} {L L' : List Asn} {Post : Value → List Asn → Prop}
theorem Tr.keys {α : Type} {b : Nat} {f : α → Value} {l : List (Int × α)} {T : Tree} (t : Take L (IM b f l) L') (h : (l.map (·.1)).Nodup → Tr ρ0 ρ L T Post) : Tr ρ0 ρ L T Post := fun hle w hw => by
 obtain ⟨es, clock, he, _⟩ := (hw.perm t.perm).im
 exact h he.keys hle w hw
theorem IM.ghost {α β : Type} {b : Nat} {f : α → Value} {g : β → Value} {l : List (Int × α)} {l' : List (Int × β)} (h : l.map (fun x => (x.1, f x.2)) = l'.map fun x => (x.1, g x.2)) (hp : HP) (H : IM b f l hp) : IM b g l' hp := by
 obtain ⟨es, clock, ⟨h1, h2, h3, h4⟩, hm⟩ := H
 refine ⟨es, clock, ⟨?_, h2, h3, ?_⟩, hm⟩
 ·have := congrArg (List.map fun x : Int × Value => (Value.int .i64 x.1, x.2)) h
  simp only [List.map_map] at this
  rw [h1]; exact this
 ·have := congrArg (List.map fun x : Int × Value => x.1) h
  simp only [List.map_map] at this
  have e : l.map (·.1) = l'.map (·.1) := this
  rw [← e]; exact h4
end Go.Gl
namespace Go.Proofs.YtdplphebjhfliaaGreat
open Go Go.Gl
inductive Pg | res | free | small (c : Nat) (l : List Bool) | head (k : Nat) | tail
 deriving DecidableEq
def Pg.taken : Pg → Bool | .free => false | _ => true
structure Spc where
 ws : List Int
 pg : List Pg
structure Wf (S : Spc) : Prop where
 len : S.ws.length = 64 * S.pg.length
 most : S.pg.length ≤ 256
 pos : 1 ≤ S.pg.length
 res : ∀ i : Nat, S.pg[i]? = some .res ↔ i = 0
 small : ∀ (i c : Nat) (l : List Bool), S.pg[i]? = some (.small c l) → c < 5 ∧ l.length = 64 / Sp.sz c
 head : ∀ i k : Nat, S.pg[i]? = some (.head k) → 1 ≤ k ∧ k ≤ 16 ∧ i + k ≤ S.pg.length ∧ ∀ j : Nat, i < j → j < i + k → S.pg[j]? = some .tail
 tail : ∀ j : Nat, S.pg[j]? = some .tail → ∃ i k : Nat, S.pg[i]? = some (.head k) ∧ i < j ∧ j < i + k
def Sp.own (pg : List Pg) (p : Nat) : Option (Nat × Nat) := (List.range pg.length).findSome? fun (j : Nat) => match pg[j]? with | some (Pg.head k) => if j ≤ p ∧ p < j + k then some (j, k) else none | _ => none
theorem Sp.own_is {pg : List Pg} {p j k : Nat} (h : Sp.own pg p = some (j, k)) : pg[j]? = some (.head k) ∧ j ≤ p ∧ p < j + k := by
 unfold Sp.own at h
 obtain ⟨i, _, hi⟩ := List.exists_of_findSome?_eq_some h
 split at hi
 ·rename_i k' hk
  split at hi
  ·rename_i hc
   injection hi with hi
   injection hi with h1 h2
   subst h1; subst h2
   exact ⟨hk, hc⟩
  ·cases hi
 ·cases hi
theorem Wf.uniq {S : Spc} (h : Wf S) {i k i' k' p : Nat} (h1 : S.pg[i]? = some (.head k)) (h2 : S.pg[i']? = some (.head k')) (g1 : i ≤ p ∧ p < i + k) (g2 : i' ≤ p ∧ p < i' + k') : i = i' ∧ k = k' := by
 have e : i = i' := by
  rcases Nat.lt_trichotomy i i' with c | c | c
  ·have := (h.head i k h1).2.2.2 i' c (by omega)
   rw [h2] at this; cases this
  ·exact c
  ·have := (h.head i' k' h2).2.2.2 i c (by omega)
   rw [h1] at this; cases this
 subst e
 rw [h1] at h2
 injection h2 with h2
 injection h2 with h2
 exact ⟨rfl, h2⟩
theorem getElem?_lt {α : Type} {l : List α} {i : Nat} {x : α} (h : l[i]? = some x) : i < l.length := by
 rcases Nat.lt_or_ge i l.length with c | c
 ·exact c
 ·rw [List.getElem?_eq_none c] at h; cases h
theorem Sp.own_of {S : Spc} (hw : Wf S) {p j k : Nat} (h : S.pg[j]? = some (.head k)) (hp : j ≤ p ∧ p < j + k) : Sp.own S.pg p = some (j, k) := by
 cases hn : Sp.own S.pg p with
 | none =>
  unfold Sp.own at hn
  rw [List.findSome?_eq_none_iff] at hn
  have := hn j (by simp [getElem?_lt h])
  rw [h] at this
  simp [hp] at this
 | some x =>
  obtain ⟨h1, h2⟩ := Sp.own_is (j := x.1) (k := x.2) hn
  obtain ⟨e1, e2⟩ := hw.uniq h h1 hp h2
  rw [e1, e2]
theorem Sp.own_no {pg : List Pg} {p : Nat} (h : ∀ j k : Nat, pg[j]? = some (.head k) → ¬ (j ≤ p ∧ p < j + k)) : Sp.own pg p = none := by
 cases hn : Sp.own pg p with
 | none => rfl
 | some x => have := Sp.own_is (j := x.1) (k := x.2) hn; exact absurd this.2 (h _ _ this.1)
def Sp.find (S : Spc) (a : Int) : Option (Nat × Nat) :=
 if 0 ≤ a ∧ a < S.ws.length then
  match S.pg[a.toNat / 64]? with
  | some (.small c l) => if l.getD (a.toNat % 64 / Sp.sz c) false then some (a.toNat / 64 * 64 + a.toNat % 64 / Sp.sz c * Sp.sz c, Sp.sz c) else none
  | _ => (Sp.own S.pg (a.toNat / 64)).map fun x => (x.1 * 64, x.2 * 64)
 else none
def Sp.openP (pg : List Pg) (c : Nat) : Option Nat := (List.range pg.length).find? fun (p : Nat) => match pg[p]? with | some (Pg.small c' l) => c' == c && !decide (l.count true = l.length) | _ => false
def Sp.putL (pg : List Pg) (p k : Nat) : List Pg := pg.mapIdx fun j x => if j = p then .head k else if p < j ∧ j < p + k then .tail else x
def Sp.freeL (pg : List Pg) (p k : Nat) : List Pg := pg.mapIdx fun j x => if p ≤ j ∧ j < p + k then .free else x
def Sp.placeS (pg : List Pg) (p c : Nat) (l : List Bool) : Int × Int × List Pg :=
 ((p * 64 + (Sp.next l 0 false).toNat * Sp.sz c : Nat), 0, pg.set p (.small c (l.set (Sp.next l 0 false).toNat true)))
def Sp.blocks (pg : List Pg) (p : Nat) : List Bool := match pg[p]? with | some (Pg.small _ l) => l | _ => []
def Sp.place (pg : List Pg) (w : Int) : Int × Int × List Pg :=
 if Sp.cls w < 0 then
  match Sp.run (pg.map Pg.taken) (Sp.pgs w).toNat with
  | some p => ((p * 64 : Nat), 0, Sp.putL pg p (Sp.pgs w).toNat)
  | none => (0, 3, pg)
 else
  match Sp.openP pg (Sp.cls w).toNat with
  | some p => Sp.placeS pg p (Sp.cls w).toNat (Sp.blocks pg p)
  | none => (match Sp.run (pg.map Pg.taken) 1 with
   | some p => Sp.placeS pg p (Sp.cls w).toNat (List.replicate (64 / Sp.sz (Sp.cls w).toNat) false)
   | none => (0, 3, pg))
def Sp.freeS (S : Spc) (a : Int) : Int × Spc :=
 match Sp.find S a with
 | some (s, _) => if (s : Int) = a then
   (match S.pg[a.toNat / 64]? with
    | some (.small c l) => (0, ⟨S.ws, S.pg.set (a.toNat / 64) (if (l.set (a.toNat % 64 / Sp.sz c) false).count true = 0 then .free else .small c (l.set (a.toNat % 64 / Sp.sz c) false))⟩)
    | some (.head k) => (0, ⟨S.ws, Sp.freeL S.pg (a.toNat / 64) k⟩)
    | _ => (0, S))
  else (2, S)
 | none => (2, S)
def Sp.at1 (p : Nat) : Pg → List Int
 | .small c l => (List.range l.length).filterMap fun i => if l.getD i false then some ((p * 64 + i * Sp.sz c : Nat) : Int) else none
 | .head _ => [((p * 64 : Nat) : Int)]
 | _ => []
def Sp.each (S : Spc) : List Int := (List.range S.pg.length).flatMap fun p => Sp.at1 p (S.pg.getD p .free)
theorem Sp.find_small {S : Spc} {n c : Nat} {l : List Bool} (h0 : n < S.ws.length) (hp : S.pg[n / 64]? = some (.small c l)) :
  Sp.find S n = if l.getD (n % 64 / Sp.sz c) false then some (n / 64 * 64 + n % 64 / Sp.sz c * Sp.sz c, Sp.sz c) else none := by
 unfold Sp.find
 rw [if_pos ⟨by omega, by omega⟩, Int.toNat_natCast, hp]
theorem Sp.find_other {S : Spc} {n : Nat} (h0 : n < S.ws.length) (hp : ∀ c l, S.pg[n / 64]? ≠ some (.small c l)) : Sp.find S n = (Sp.own S.pg (n / 64)).map fun x => (x.1 * 64, x.2 * 64) := by
 unfold Sp.find
 rw [if_pos ⟨by omega, by omega⟩, Int.toNat_natCast]
 split
 ·rename_i c l h; exact absurd h (hp c l)
 ·rfl
theorem Sp.find_out {S : Spc} {a : Int} (h : ¬ (0 ≤ a ∧ a < S.ws.length)) : Sp.find S a = none := by
 unfold Sp.find
 rw [if_neg h]
abbrev Ent := Nat × Nat × List Bool
def Smalls (pg : List Pg) (ls : List (Int × Ent)) : Prop := ∀ (i : Int) (c : Nat) (l : List Bool), (∃ q, (i, q, c, l) ∈ ls) ↔ (0 ≤ i ∧ pg[i.toNat]? = some (.small c l))
def Larges (pg : List Pg) (ll : List (Int × Nat)) : Prop := ∀ (i : Int) (k : Nat), (i, k) ∈ ll ↔ (0 ≤ i ∧ pg[i.toNat]? = some (.head k))
def fS (x : Ent) : Value := .pointer (some ⟨x.1, 0, none⟩)
def fL (k : Nat) : Value := i64 k
theorem Smalls.get {pg : List Pg} {ls : List (Int × Ent)} (h : Smalls pg ls) (hn : (ls.map (·.1)).Nodup) {p c : Nat} {l : List Bool} (hp : pg[p]? = some (.small c l)) : ∃ q, aget (p : Int) ls = some (q, c, l) := by
 obtain ⟨q, hq⟩ := (h p c l).mpr ⟨by omega, by simpa using hp⟩
 exact ⟨q, (aget_mem hn).mpr hq⟩
theorem Smalls.none {pg : List Pg} {ls : List (Int × Ent)} (h : Smalls pg ls) {p : Nat} (hp : ∀ c l, pg[p]? ≠ some (.small c l)) : aget (p : Int) ls = none := by
 rw [aget_none]
 rintro ⟨q, c, l⟩ hm
 have := ((h p c l).mp ⟨q, hm⟩).2
 exact hp c l (by simpa using this)
theorem Larges.get {pg : List Pg} {ll : List (Int × Nat)} (h : Larges pg ll) (hn : (ll.map (·.1)).Nodup) {p k : Nat} (hp : pg[p]? = some (.head k)) : aget (p : Int) ll = some k :=
 (aget_mem hn).mpr ((h p k).mpr ⟨by omega, by simpa using hp⟩)
theorem Smalls.set {pg : List Pg} {ls : List (Int × Ent)} (h : Smalls pg ls) (hn : (ls.map (·.1)).Nodup) {p c q : Nat} {l : List Bool} (hp : p < pg.length) : Smalls (pg.set p (.small c l)) (aset (p : Int) (q, c, l) ls) := by
 intro i c' l'
 by_cases hi : i = p
 ·subst hi
  simp only [Int.toNat_natCast, List.getElem?_set, hp]
  constructor
  ·rintro ⟨q', hq⟩
   rw [aset_mem hn] at hq
   rcases hq with ⟨_, hq⟩ | ⟨hq, _⟩
   ·injection hq with h1 h2; injection h2 with h2 h3
    exact ⟨by omega, by simp [h2, h3]⟩
   ·exact absurd rfl hq
  ·rintro ⟨_, hq⟩
   simp at hq
   exact ⟨q, (aset_mem hn).mpr (.inl ⟨rfl, by rw [hq.1, hq.2]⟩)⟩
 ·have : (∃ q', (i, q', c', l') ∈ aset (p : Int) (q, c, l) ls) ↔ ∃ q', (i, q', c', l') ∈ ls := by
   constructor
   ·rintro ⟨q', hq⟩
    rw [aset_mem hn] at hq
    rcases hq with ⟨hq, _⟩ | ⟨_, hq⟩
    ·exact absurd hq hi
    ·exact ⟨q', hq⟩
   ·rintro ⟨q', hq⟩
    exact ⟨q', (aset_mem hn).mpr (.inr ⟨hi, hq⟩)⟩
  rw [this, h i c' l']
  constructor
  ·rintro ⟨h0, h1⟩
   exact ⟨h0, by rw [List.getElem?_set_ne (by omega)]; exact h1⟩
  ·rintro ⟨h0, h1⟩
   exact ⟨h0, by rw [List.getElem?_set_ne (by omega)] at h1; exact h1⟩
theorem Smalls.del {pg : List Pg} {ls : List (Int × Ent)} (h : Smalls pg ls) (hn : (ls.map (·.1)).Nodup) {p : Nat} {x : Pg} (hx : ∀ c l, x ≠ .small c l) : Smalls (pg.set p x) (adel (p : Int) ls) := by
 intro i c' l'
 have : (∃ q', (i, q', c', l') ∈ adel (p : Int) ls) ↔ i ≠ p ∧ ∃ q', (i, q', c', l') ∈ ls := by
  constructor
  ·rintro ⟨q', hq⟩; rw [adel_mem hn] at hq; exact ⟨hq.1, q', hq.2⟩
  ·rintro ⟨h1, q', hq⟩; exact ⟨q', (adel_mem hn).mpr ⟨h1, hq⟩⟩
 rw [this, h i c' l']
 by_cases hi : i = p
 ·subst hi
  simp only [ne_eq, not_true_eq_false, false_and, false_iff, Int.toNat_natCast, List.getElem?_set]
  rintro ⟨_, h1⟩
  simp at h1
  exact hx _ _ h1.2
 ·constructor
  ·rintro ⟨_, h0, h1⟩; exact ⟨h0, by rw [List.getElem?_set_ne (by omega)]; exact h1⟩
  ·rintro ⟨h0, h1⟩; exact ⟨hi, h0, by rw [List.getElem?_set_ne (by omega)] at h1; exact h1⟩
theorem Smalls.same {pg pg' : List Pg} {ls : List (Int × Ent)} (h : Smalls pg ls) (e : ∀ (j : Nat) c l, pg[j]? = some (.small c l) ↔ pg'[j]? = some (.small c l)) : Smalls pg' ls := fun i c l => by rw [h i c l, e]
theorem Larges.same {pg pg' : List Pg} {ll : List (Int × Nat)} (h : Larges pg ll) (e : ∀ (j : Nat) k, pg[j]? = some (.head k) ↔ pg'[j]? = some (.head k)) : Larges pg' ll := fun i k => by rw [h i k, e]
theorem Larges.del {pg pg' : List Pg} {ll : List (Int × Nat)} (h : Larges pg ll) (hn : (ll.map (·.1)).Nodup) {p : Nat} (hp : ∀ k, pg'[p]? ≠ some (.head k)) (e : ∀ (j : Nat) k', j ≠ p → (pg[j]? = some (.head k') ↔ pg'[j]? = some (.head k'))) : Larges pg' (adel (p : Int) ll) := by
 intro i k'
 rw [adel_mem hn, h i k']
 by_cases hi : i = p
 ·subst hi
  rw [Int.toNat_natCast]
  constructor
  ·rintro ⟨h1, _⟩; exact absurd rfl h1
  ·rintro ⟨_, h1⟩; exact absurd h1 (hp _)
 ·constructor
  ·rintro ⟨_, h1, h2⟩; exact ⟨h1, (e _ _ (by omega)).mp h2⟩
  ·rintro ⟨h1, h2⟩; exact ⟨hi, h1, (e _ _ (by omega)).mpr h2⟩
end Go.Proofs.YtdplphebjhfliaaGreat
namespace Go.Gl
open Go
variable {ρ0 ρ : FR} {L L' : List Asn} {Post : Value → List Asn → Prop}
theorem Sat.later {L : List Asn} {w w' : World} (h : ∀ (c : Nat) (o : Obj), w.heap[c]? = some o → w'.heap[c]? = some o) (hs : Sm w w') (H : Sat ρ L w) : Sat ρ L w' := by
 obtain ⟨⟨h0, hl, hh⟩, h3⟩ := H
 exact ⟨⟨h0, hl, fun b o hb => ⟨h b o (hh b o hb).1, (hh b o hb).2⟩⟩, ⟨fun b o hb => h b o (h3 b o hb), h3.same.trans hs⟩⟩
end Go.Gl
namespace Go.Proofs.YtdplphebjhfliaaGreat
open Go Go.Gl
variable {ρ : FR}
def Sp.sort (xs : List Int) : List Int := xs.mergeSort fun x y => decide (x ≤ y)
theorem Sp.sort_len {xs : List Int} : (Sp.sort xs).length = xs.length := by simp [Sp.sort]
theorem Sp.sort_perm {xs ys : List Int} (h : xs.Perm ys) : Sp.sort xs = Sp.sort ys := mergeSort_of_perm_i h
theorem Sp.sort_id {xs : List Int} (h : xs.Pairwise (· ≤ ·)) : Sp.sort xs = xs := List.mergeSort_of_pairwise (by simpa using h)
theorem sort_ints (s : Slc) (xs : List Int) (hl : xs.length < 2 ^ 40) : Gl.Spec ρ Tryz.prog 104 [.slice s.a s.n s.c] [SLc s 1 (xs.map i64)] (.many [])
  fun _ M => M = [SLc s 1 ((Sp.sort xs).map i64)] := by
 intro R w hw
 rcases hw.sl with ⟨g1, g2, g3, g4, g5⟩ | ⟨b, off, pre, rest, g1, g2, g3, g4, g5, g6⟩
 ·have hx : xs = [] := by simpa using g4
  subst hx
  rw [g1, g2, g3]
  refine (AnyM.slices_Sort_int_none Tryz.glSort none 0 w).mono ?_
  rintro e w' ⟨rfl, rfl⟩
  exact ⟨(), _, rfl, rfl, by rw [show Sp.sort [] = [] from by simp [Sp.sort]]; exact hw⟩
 ·have hn : s.n = xs.length := by simpa using g3.symm
  obtain ⟨t, hb⟩ := g6.cl
  have hlt : b < w.heap.size := (Array.getElem?_eq_some_iff.1 hb).1
  have hget : ∀ j, j < xs.length → (pre ++ (xs.map i64 ++ rest))[off + j]? = (xs.map i64)[j]? := fun j hj => by rw [← g2]; exact mid_get (by simpa using hj)
  have hH : Sort.Holds (Value.int .i64) w b off xs.toArray := by
   intro j hj
   simp only [List.size_toArray] at hj
   refine ⟨?_, by simp [World.frozen?, hb]⟩
   have e : (xs.toArray)[j]! = xs[j] := by simp [hj]
   rw [e]
   refine cell_of hb ?_
   rw [List.getElem?_toArray, hget j hj]; simp [hj]
  rw [g1, hn]
  refine (AnyM.slices_Sort_int Tryz.glSort b off s.c xs w hH hlt (by omega)).mono ?_
  rintro e w' ⟨rfl, n, os, rfl⟩
  refine ⟨(), _, rfl, rfl, ?_⟩
  have hcells : (Sort.putCells (Value.int .i64) off (Sp.sort xs).toArray (pre ++ (xs.map i64 ++ rest)).toArray) = (pre ++ ((Sp.sort xs).map i64 ++ rest)).toArray := by
   apply Array.ext_getElem?
   intro k
   simp only [Sort.putCells, Array.getElem?_mapIdx, List.getElem?_toArray, List.size_toArray]
   rcases Nat.lt_or_ge k off with c | c
   ·rw [List.getElem?_append_left (by omega), List.getElem?_append_left (by omega)]
    have : ¬ (off ≤ k ∧ k < off + (Sp.sort xs).length) := by omega
    simp [this]
   ·obtain ⟨j, rfl⟩ : ∃ j, k = off + j := ⟨k - off, by omega⟩
    rcases Nat.lt_or_ge j xs.length with c2 | c2
    ·have h1 := hget j c2
     have h2 : (pre ++ ((Sp.sort xs).map i64 ++ rest))[off + j]? = ((Sp.sort xs).map i64)[j]? := by rw [← g2]; exact mid_get (by simpa [Sp.sort_len] using c2)
     rw [h1, h2]
     have h3 : j < (Sp.sort xs).length := by rw [Sp.sort_len]; exact c2
     have : off ≤ off + j ∧ off + j < off + (Sp.sort xs).length := by omega
     simp [c2, this, h3]
    ·have : ¬ (off ≤ off + j ∧ off + j < off + (Sp.sort xs).length) := by rw [Sp.sort_len]; omega
     have h1 : (pre ++ (xs.map i64 ++ rest))[off + j]? = rest[j - xs.length]? := by
      rw [← List.append_assoc, List.getElem?_append_right (by rw [List.length_append, List.length_map]; omega)]
      congr 1; rw [List.length_append, List.length_map]; omega
     have h2 : (pre ++ ((Sp.sort xs).map i64 ++ rest))[off + j]? = rest[j - xs.length]? := by
      rw [← List.append_assoc, List.getElem?_append_right (by rw [List.length_append, List.length_map, Sp.sort_len]; omega)]
      congr 1; rw [List.length_append, List.length_map, Sp.sort_len]; omega
     rw [h1, h2]
     have hj : ¬ j < xs.length := by omega
     simp [hj, Sp.sort_len]
  have hset : Sat ρ (blk b (pre ++ ((Sp.sort xs).map i64 ++ rest)) :: R) (Sort.putRow (Value.int .i64) (Sort.ahead w n) b off (Sp.sort xs).toArray) := by
   obtain ⟨⟨h, ⟨h1, h2, hd, rfl, ⟨t', ha⟩, hl⟩, hh⟩, h3⟩ := g6
   have ht : t' = t := by
    have := (hh b _ (by rw [ha]; simp; rfl)).1
    rw [hb] at this; injection this with h; injection h with _ h; exact h.symm
   subst ht
   refine Sat.imp (fun _ h => ⟨t', h⟩) (Sat.set (o := .cells (pre ++ (xs.map i64 ++ rest)).toArray t' (0, 0)) (w := w) ⟨⟨_, ⟨h1, h2, hd, rfl, ha, hl⟩, hh⟩, h3⟩ fun c => ?_)
   show ((Sort.ahead w n).heap.modify b (Sort.onCells _))[c]? = _
   rw [Array.getElem?_modify]
   by_cases hc : b = c
   ·subst hc
    simp only [if_true, Sort.ahead, hb, Option.map_some, Sort.onCells, hcells]
   ·simp only [hc, if_false, if_neg (Ne.symm hc), Sort.ahead]
  have hfin : Sat ρ (blk b (pre ++ ((Sp.sort xs).map i64 ++ rest)) :: R) (Sort.grow (Sort.putRow (Value.int .i64) (Sort.ahead w n) b off (Sp.sort xs).toArray) os) := by
   refine Sat.later (w := Sort.putRow (Value.int .i64) (Sort.ahead w n) b off (Sp.sort xs).toArray) (fun c o h => ?_) ⟨rfl, rfl, rfl⟩ hset
   show ((Sort.putRow (Value.int .i64) (Sort.ahead w n) b off (Sp.sort xs).toArray).heap ++ os)[c]? = some o
   rw [Array.getElem?_append_left (Array.getElem?_eq_some_iff.1 h).1]
   exact h
  exact Sat.imp (fun h hh => .inr ⟨b, off, pre, rest, g1, g2, by rw [List.length_map, Sp.sort_len]; simpa using g3, g4, g5, hh⟩) hfin
end Go.Proofs.YtdplphebjhfliaaGreat
namespace Go.Proofs.YtdplphebjhfliaaGreat
open Go Go.Gl
variable {ρ0 ρ : FR} {L L' : List Asn} {Post : Value → List Asn → Prop} {T : Tree}
def PgA (x : Int × Ent) : Asn := PageA x.2.1 x.2.2.2 (Sp.sz x.2.2.1)
theorem pg_close {l1 l2 : List (Int × Ent)} (i : Int) {q c : Nat} {l : List Bool} (h : HP) (H : star [PageA q l (Sp.sz c), star ((l1 ++ l2).map PgA)] h) : star ((l1 ++ (i, q, c, l) :: l2).map PgA) h :=
 star_mid' (P := PgA) (x := (i, q, c, l)) h H
structure SpI where
 pa : Nat
 pp : Nat
 ms : Nat
 ml : Nat
 ls : List (Int × Ent)
 ll : List (Int × Nat)
def SpaceA (p : Nat) (S : Spc) : Asn := fun h => ∃ i : SpI, (Smalls S.pg i.ls ∧ Larges S.pg i.ll) ∧
 star [blk p [.pointer (some ⟨i.pa, 0, none⟩), .pointer (some ⟨i.pp, 0, none⟩), .map (some i.ms), .map (some i.ml)], ArenaA i.pa S.ws, PagesA i.pp (S.pg.map Pg.taken), IM i.ms fS i.ls, IM i.ml fL i.ll, star (i.ls.map PgA)] h
theorem SpaceA.op {p : Nat} {S : Spc} (t : Take L (SpaceA p S) L') (h : ∀ (pa pp ms ml : Nat) (ls : List (Int × Ent)) (ll : List (Int × Nat)), Smalls S.pg ls → Larges S.pg ll → (ls.map (·.1)).Nodup → (ll.map (·.1)).Nodup →
  Tr ρ0 ρ (blk p [.pointer (some ⟨pa, 0, none⟩), .pointer (some ⟨pp, 0, none⟩), .map (some ms), .map (some ml)] :: ArenaA pa S.ws :: PagesA pp (S.pg.map Pg.taken) :: IM ms fS ls :: IM ml fL ll :: star (ls.map PgA) :: L') T Post) : Tr ρ0 ρ L T Post :=
 Tr.openL (M := fun i : SpI => [blk p [.pointer (some ⟨i.pa, 0, none⟩), .pointer (some ⟨i.pp, 0, none⟩), .map (some i.ms), .map (some i.ml)], ArenaA i.pa S.ws, PagesA i.pp (S.pg.map Pg.taken), IM i.ms fS i.ls, IM i.ml fL i.ll, star (i.ls.map PgA)]) t (fun _ h => h)
  fun i hi => Tr.keys (b := i.ms) (f := fS) (l := i.ls) tk fun n1 => Tr.keys (b := i.ml) (f := fL) (l := i.ll) tk fun n2 => h i.pa i.pp i.ms i.ml i.ls i.ll hi.1 hi.2 n1 n2
theorem SpaceA.cl {p pa pp ms ml : Nat} {S : Spc} {ls : List (Int × Ent)} {ll : List (Int × Nat)} (h1 : Smalls S.pg ls) (h2 : Larges S.pg ll) (h : HP)
  (H : star [blk p [.pointer (some ⟨pa, 0, none⟩), .pointer (some ⟨pp, 0, none⟩), .map (some ms), .map (some ml)], ArenaA pa S.ws, PagesA pp (S.pg.map Pg.taken), IM ms fS ls, IM ml fL ll, star (ls.map PgA)] h) : SpaceA p S h := ⟨⟨pa, pp, ms, ml, ls, ll⟩, ⟨h1, h2⟩, H⟩
abbrev tMS : TypeId := 129
abbrev tML : TypeId := 130
theorem uMS : Tryz.prog.underlying tMS = some (.map 3 215) := by kernel_rfl
theorem uML : Tryz.prog.underlying tML = some (.map 3 3) := by kernel_rfl
theorem uI : Tryz.prog.underlying 3 = some (.int .i64) := by kernel_rfl
theorem zPg : (Tryz.prog.info? 215).bind (·.zero) = some (LK.ptr.val none) := by kernel_rfl
theorem zI : (Tryz.prog.info? 3).bind (·.zero) = some ((LK.int .i64).val (0 : Int)) := by kernel_rfl
def gS (x : Ent) : LT .ptr := some ⟨x.1, 0, none⟩
def gL (k : Nat) : LT (.int .i64) := (k : Int)
theorem hgS (x : Ent) : fS x = LK.ptr.val (gS x) := rfl
theorem hgL (k : Nat) : fL k = (LK.int .i64).val (gL k) := rfl
def Sp.newSpc (n : Nat) : Spc := ⟨List.replicate (n * 64) 0, .res :: List.replicate (n - 1) .free⟩
theorem Sp.newSpc_wf {n : Nat} (h0 : 1 ≤ n) (h1 : n ≤ 256) : Wf (Sp.newSpc n) := by
 have hg : ∀ i : Nat, (Sp.newSpc n).pg[i]? = if i = 0 then some .res else if i < n then some .free else none := by
  intro i
  unfold Sp.newSpc
  cases i with
  | zero => rfl
  | succ i =>
   simp only [List.getElem?_cons_succ, List.getElem?_replicate]
   by_cases hi : i < n - 1
   ·rw [if_pos hi, if_neg (by omega), if_pos (by omega)]
   ·rw [if_neg hi, if_neg (by omega), if_neg (by omega)]
 refine ⟨by simp [Sp.newSpc]; omega, by simp [Sp.newSpc]; omega, by simp [Sp.newSpc], ?_, ?_, ?_, ?_⟩
 ·intro i; rw [hg]; split
  ·simp [*]
  ·split <;> simp [*]
 ·intro i c l h; rw [hg] at h; split at h
  ·cases h
  ·split at h <;> cases h
 ·intro i k h; rw [hg] at h; split at h
  ·cases h
  ·split at h <;> cases h
 ·intro i h; rw [hg] at h; split at h
  ·cases h
  ·split at h <;> cases h
theorem space_new (n : Int) (h0 : 1 ≤ n) (h1 : n ≤ 256) : Gl.Spec ρ Tryz.prog 97 [i64 n] [] PE
  fun r M => ∃ b, r = (some ⟨b, 0, none⟩, 0, ()) ∧ M = [SpaceA b (Sp.newSpc n.toNat)] := by
 refine Spec.of (fun Q w h => F.space.New.calls n h) fun R => ?_
 unfold F.space.New
 try simp only [lca, lna]
 refine en_call (arena_new n h0 h1) tks ?_
 rintro x M ⟨pa, rfl, rfl⟩
 try simp only [lca, lna]
 refine en_brf rfl ?_
 refine en_call (pages_new n h0 h1) tks ?_
 rintro x M ⟨pp, rfl, rfl⟩
 try simp only [lca, lna]
 refine en_brf rfl (en_nwIM fS fun ms => en_nwIM fL fun ml => en_nw fun b => ?_)
 have e : true :: List.replicate (n.toNat - 1) false = (Sp.newSpc n.toNat).pg.map Pg.taken := by simp [Sp.newSpc, Pg.taken]
 rw [e]
 refine Tr.none ?_
 have hw := Sp.newSpc_wf (n := n.toNat) (by omega) (by omega)
 refine Tr.close (M := [blk b [.pointer (some ⟨pa, 0, none⟩), .pointer (some ⟨pp, 0, none⟩), .map (some ms), .map (some ml)], ArenaA pa (Sp.newSpc n.toNat).ws, PagesA pp ((Sp.newSpc n.toNat).pg.map Pg.taken), IM ms fS [], IM ml fL [], star (([] : List (Int × Ent)).map PgA)]) tks (SpaceA.cl (S := Sp.newSpc n.toNat) (p := b) ?_ ?_) ?_
 ·intro i c l
  simp only [List.not_mem_nil, exists_false, false_iff, not_and]
  intro _ h
  unfold Sp.newSpc at h
  cases hi : i.toNat with
  | zero => rw [hi] at h; cases h
  | succ j => rw [hi] at h; simp [List.getElem?_replicate] at h
 ·intro i k
  simp only [List.not_mem_nil, false_iff, not_and]
  intro _ h
  unfold Sp.newSpc at h
  cases hi : i.toNat with
  | zero => rw [hi] at h; cases h
  | succ j => rw [hi] at h; simp [List.getElem?_replicate] at h
 exact en_rets (x := (some ⟨b, 0, none⟩, 0, ())) rfl ⟨b, rfl, rfl⟩ tks ens
theorem space_new0 (n : Int) (h : ¬ (1 ≤ n ∧ n ≤ 256)) : Gl.Spec ρ Tryz.prog 97 [i64 n] [] PE fun r M => r = (none, 1, ()) ∧ M = [] := by
 refine Spec.of (fun Q w h => F.space.New.calls n h) fun R => ?_
 unfold F.space.New
 try simp only [lca, lna]
 refine en_call (arena_new0 n h) tks ?_
 rintro x M ⟨rfl, rfl⟩
 try simp only [lca, lna]
 refine en_brt rfl ?_
 exact en_rets (x := (none, 1, ())) rfl ⟨rfl, rfl⟩ tks ens
theorem tdiv64 (n : Nat) : Int.tdiv (n : Int) 64 = ((n / 64 : Nat) : Int) := rfl
theorem tmod64 (n : Nat) : Int.tmod (n : Int) 64 = ((n % 64 : Nat) : Int) := rfl
theorem tdivN (n k : Nat) : Int.tdiv (n : Int) (k : Int) = ((n / k : Nat) : Int) := rfl
abbrev P3 : RK := .many [.l (.int .i64), .l (.int .i64), .l .bool]
def Sp.found : Option (Nat × Nat) → RT P3
 | some (s, w) => ((s : Int), (w : Int), true, ()) | none => ((0 : Int), (0 : Int), false, ())
theorem space_find (p : Nat) (S : Spc) (hw : Wf S) (a : Int) : Gl.Spec ρ Tryz.prog 83 [.pointer (some ⟨p, 0, none⟩), i64 a] [SpaceA p S] P3
  fun r M => r = Sp.found (Sp.find S a) ∧ M = [SpaceA p S] := by
 have hlen := hw.len
 have hmost := hw.most
 refine Spec.of (fun Q w h => F.space.Space.Find.calls (some ⟨p, 0, none⟩) a h) fun R => ?_
 unfold F.space.Space.Find
 try simp only [lca, lna]
 refine en_brf rfl (en_br (fun h => ?_) (fun h => ?_))
 ·replace h := of_decide_eq_true h
  rw [Sp.find_out (by omega)]
  exact en_rets (x := Sp.found none) rfl ⟨rfl, rfl⟩ tks ens
 ·replace h := of_decide_eq_false h
  obtain ⟨n, rfl⟩ : ∃ n : Nat, a = n := ⟨a.toNat, by omega⟩
  refine en_nn (SpaceA.op tk fun pa pp ms ml ls ll hS hL nS nL => ?_)
  refine en_ld (k := .ptr) (x := some ⟨pa, 0, none⟩) (by rw [fa_mk]) tk rfl ?_
  refine en_call (arena_len pa S.ws) tks ?_
  rintro x M ⟨rfl, rfl⟩
  try simp only [lca, lna]
  refine en_br (fun h2 => ?_) (fun h2 => ?_)
  ·replace h2 := of_decide_eq_true h2
   rw [Sp.find_out (by omega)]
   refine Tr.close tks (SpaceA.cl (p := p) (pa := pa) (pp := pp) (ms := ms) (ml := ml) hS hL) ?_
   exact en_rets (x := Sp.found none) rfl ⟨rfl, rfl⟩ tks ens
  ·replace h2 := of_decide_eq_false h2
   have hn : n < S.ws.length := by omega
   have hp : n / 64 < S.pg.length := by omega
   refine en_need (by decide) (en_nn ?_)
   refine en_ld (k := .map) (x := some ms) (by rw [fa_mk]) tk rfl ?_
   rw [tdiv64, wrap64 (n := ((n / 64 : Nat) : Int)) (by omega) (by omega)]
   refine en_lkp2 (kd := .ptr) (g := gS) (z0 := none) uMS uI zPg hgS tk ?_
   by_cases hsm : ∃ c l, S.pg[n / 64]? = some (.small c l)
   ·obtain ⟨c, l, hsm⟩ := hsm
    obtain ⟨hc, hll⟩ := hw.small _ _ _ hsm
    obtain ⟨q, hq⟩ := hS.get nS hsm
    rw [hq, Sp.find_small hn hsm]
    obtain ⟨l1, l2, rfl, _, _⟩ := aget_split hq
    refine en_brt rfl (en_need (by decide) ?_)
    refine Tr.mid (P := PgA) tk ?_
    refine en_call (block_words q l (Sp.sz c)) (Takes.cons .here .nil) ?_
    rintro x M ⟨rfl, rfl⟩
    try simp only [lca, lna]
    have hz := Sp.sz_cases hc
    refine en_need (by omega) (en_nn ?_)
    refine PageA.op tk fun b => ?_
    refine en_ld (k := .ptr) (b := q) (x := some ⟨b, 0, none⟩) (by rw [fa_mk]) tk rfl ?_
    have hm : n % 64 / Sp.sz c * Sp.sz c ≤ n % 64 := Nat.div_mul_le_self _ _
    have hd2 : n % 64 / Sp.sz c ≤ n % 64 := Nat.div_le_self _ _
    rw [tmod64, tdivN]
    generalize n % 64 / Sp.sz c = d at hm hd2 ⊢
    rw [wrap64 (n := (d : Int)) (by omega) (by omega)]
    refine en_call (bits_has b l (d : Int)) tks ?_
    rintro x M ⟨rfl, rfl⟩
    try simp only [lca, lna]
    refine Tr.close (M := [blk q [.pointer (some ⟨b, 0, none⟩), i64 (Sp.sz c)], BitsA b l]) tks (PageA.cl (p := q)) ?_
    have hh : Sp.has l (d : Int) = l.getD d false := by simp [Sp.has]
    rw [hh]
    refine en_br (fun h3 => ?_) (fun h3 => ?_)
    ·rw [if_neg (by simpa using h3)]
     refine Tr.close (M := [PageA q l (Sp.sz c), star ((l1 ++ l2).map PgA)]) tks (pg_close ((n / 64 : Nat) : Int) (q := q) (c := c) (l := l)) ?_
     refine Tr.close tks (SpaceA.cl (p := p) (pa := pa) (pp := pp) (ms := ms) (ml := ml) hS hL) ?_
     exact en_rets (x := Sp.found none) rfl ⟨rfl, rfl⟩ tks ens
    ·rw [if_pos (by simpa using h3)]
     refine en_call (block_words q l (Sp.sz c)) tks ?_
     rintro x M ⟨rfl, rfl⟩
     try simp only [lca, lna]
     refine en_call (block_words q l (Sp.sz c)) tks ?_
     rintro x M ⟨rfl, rfl⟩
     try simp only [lca, lna]
     refine Tr.close (M := [PageA q l (Sp.sz c), star ((l1 ++ l2).map PgA)]) tks (pg_close ((n / 64 : Nat) : Int) (q := q) (c := c) (l := l)) ?_
     refine Tr.close tks (SpaceA.cl (p := p) (pa := pa) (pp := pp) (ms := ms) (ml := ml) hS hL) ?_
     have e1 : (d : Int) * (Sp.sz c : Int) = ((d * Sp.sz c : Nat) : Int) := by simp
     rw [e1]
     generalize d * Sp.sz c = dd at hm ⊢
     rw [wrap64 (n := (dd : Int)) (by omega) (by omega), wrap64 (n := ((n / 64 : Nat) : Int) * 64) (by omega) (by omega), wrap64 (by omega) (by omega)]
     refine en_rets (x := Sp.found (some (n / 64 * 64 + dd, Sp.sz c))) ?_ ⟨rfl, rfl⟩ tks ens
     simp [Sp.found, RK.val, KD.val, LK.val, kvals]
   ·have hns : ∀ c l, S.pg[n / 64]? ≠ some (.small c l) := fun c l h => hsm ⟨c, l, h⟩
    rw [hS.none hns, Sp.find_other hn hns]
    refine en_brf rfl (en_nn ?_)
    refine en_ld (k := .map) (x := some ml) (by rw [fa_mk]) tk rfl ?_
    refine en_rng uML tk fun r => ?_
    refine en_lp (fun m _ M => ∃ rem cur, m = rem.length ∧ M = MI ml r fL ll rem cur :: ArenaA pa S.ws :: blk p [.pointer (some ⟨pa, 0, none⟩), .pointer (some ⟨pp, 0, none⟩), .map (some ms), .map (some ml)] :: PagesA pp (S.pg.map Pg.taken) :: IM ms fS ls :: star (ls.map PgA) :: R ∧
      (∀ x ∈ rem, x ∈ ll) ∧ ∀ x ∈ ll, x ∈ rem ∨ ¬ (x.1 ≤ ((n / 64 : Nat) : Int) ∧ ((n / 64 : Nat) : Int) < x.1 + (x.2 : Int))) ll.length ?_ ?_
    ·exact ⟨ll, none, rfl, rfl, fun x hx => hx, fun x hx => .inl hx⟩
    ·rintro m ⟨⟩ M ⟨rem, cur, rfl, rfl, hsub, hrem⟩ X hX
     refine en_nxt (kv := .int .i64) (g := gL) hgL .here (fun h0 => ?_) (fun k v r1 r2 hr => ?_)
     ·subst h0
      have hno : Sp.own S.pg (n / 64) = none := by
       refine Sp.own_no fun j k hj hjk => ?_
       have := hrem ((j : Int), k) ((hL j k).mpr ⟨by omega, by simpa using hj⟩)
       rcases this with h | h
       ·cases h
       ·exact h ⟨by dsimp only; omega, by dsimp only; omega⟩
      rw [hno]
      refine MI.over .here ?_
      refine Tr.close tks (SpaceA.cl (p := p) (pa := pa) (pp := pp) (ms := ms) (ml := ml) hS hL) ?_
      exact en_rets (x := Sp.found none) rfl ⟨rfl, rfl⟩ tks ens
     ·refine en_ent (kv := .int .i64) (g := gL) hgL .here ?_
      have hkv : (k, v) ∈ ll := hsub _ (by rw [hr]; simp)
      obtain ⟨hk0, hkp⟩ := (hL k v).mp hkv
      obtain ⟨j, rfl⟩ : ∃ j : Nat, k = j := ⟨k.toNat, by omega⟩
      rw [Int.toNat_natCast] at hkp
      have next : ¬ ((j : Int) ≤ ((n / 64 : Nat) : Int) ∧ ((n / 64 : Nat) : Int) < (j : Int) + (v : Int)) → (∀ x ∈ r1 ++ r2, x ∈ ll) ∧ ∀ x ∈ ll, x ∈ r1 ++ r2 ∨ ¬ (x.1 ≤ ((n / 64 : Nat) : Int) ∧ ((n / 64 : Nat) : Int) < x.1 + (x.2 : Int)) := by
       intro hno
       refine ⟨fun x hx => hsub x ?_, fun x hx => ?_⟩
       ·rw [hr]; simp at hx ⊢; rcases hx with h | h <;> simp [h]
       ·rcases hrem x hx with h | h
        ·rw [hr] at h; simp at h
         rcases h with h | h | h
         ·exact .inl (by simp [h])
         ·right; rw [h]; exact hno
         ·exact .inl (by simp [h])
        ·exact .inr h
      obtain ⟨v1, v2, v3, _⟩ := hw.head _ _ hkp
      have w1 : IntKind.wrap .i64 ((j : Int) + gL v) = (j : Int) + (v : Int) := wrap64 (by unfold gL; omega) (by unfold gL; omega)
      dsimp only
      rw [w1]
      refine en_br (fun h1 => ?_) (fun h1 => ?_)
      ·replace h1 := of_decide_eq_true h1
       refine en_br (fun h2 => ?_) (fun h2 => ?_)
       ·replace h2 := of_decide_eq_true h2
        have ho : Sp.own S.pg (n / 64) = some (j, v) := Sp.own_of hw hkp ⟨by omega, by omega⟩
        rw [ho]
        refine MI.over .here ?_
        refine Tr.close tks (SpaceA.cl (p := p) (pa := pa) (pp := pp) (ms := ms) (ml := ml) hS hL) ?_
        have w2 : IntKind.wrap .i64 ((j : Int) * 64) = (j : Int) * 64 := wrap64 (by omega) (by omega)
        have w3 : IntKind.wrap .i64 (gL v * 64) = (v : Int) * 64 := wrap64 (by unfold gL; omega) (by unfold gL; omega)
        rw [w2, w3]
        refine en_rets (x := Sp.found (some (j * 64, v * 64))) ?_ ⟨rfl, rfl⟩ tks ens
        simp [Sp.found, RK.val, KD.val, LK.val, kvals]
       ·replace h2 := of_decide_eq_false h2
        exact hX (r1 ++ r2).length _ _ (by rw [hr]; simp) ⟨r1 ++ r2, _, rfl, rfl, next (by omega)⟩
      ·replace h1 := of_decide_eq_false h1
       exact hX (r1 ++ r2).length _ _ (by rw [hr]; simp) ⟨r1 ++ r2, _, rfl, rfl, next (by omega)⟩
end Go.Proofs.YtdplphebjhfliaaGreat
namespace Go.Proofs.YtdplphebjhfliaaGreat
open Go Go.Gl
variable {ρ0 ρ : FR} {L L' : List Asn} {Post : Value → List Asn → Prop} {T : Tree}
def Pg.isS : Pg → Bool | .small _ _ => true | _ => false
def Sp.smallIx (pg : List Pg) : List Nat := (List.range pg.length).filter fun p => (pg.getD p .free).isS
theorem Sp.mem_smallIx {pg : List Pg} {p : Nat} : p ∈ Sp.smallIx pg ↔ ∃ c l, pg[p]? = some (.small c l) := by
 unfold Sp.smallIx
 rw [List.mem_filter, List.mem_range]
 constructor
 ·rintro ⟨h1, h2⟩
  rw [List.getD_eq_getElem?_getD, List.getElem?_eq_getElem h1] at h2
  rw [List.getElem?_eq_getElem h1]
  revert h2
  generalize pg[p] = x
  intro h2
  cases x with
  | small c l => exact ⟨c, l, rfl⟩
  | _ => cases h2
 ·rintro ⟨c, l, h⟩
  exact ⟨getElem?_lt h, by rw [List.getD_eq_getElem?_getD, h]; rfl⟩
theorem Sp.smallIx_sorted (pg : List Pg) : (Sp.smallIx pg).Pairwise (· < ·) := List.Pairwise.filter _ List.pairwise_lt_range
end Go.Proofs.YtdplphebjhfliaaGreat
namespace Go.Proofs.YtdplphebjhfliaaGreat
open Go Go.Gl
variable {ρ0 ρ : FR} {L L' : List Asn} {Post : Value → List Asn → Prop} {T : Tree}
theorem bits_ext {a b : List Bool} (hl : a.length = b.length) (h : ∀ j, j < a.length → a.getD j false = b.getD j false) : a = b := by
 apply List.ext_getElem hl
 intro j h1 h2
 have := h j h1
 rw [List.getD_eq_getElem?_getD, List.getD_eq_getElem?_getD, List.getElem?_eq_getElem h1, List.getElem?_eq_getElem h2] at this
 exact this
theorem taken_getD {pg : List Pg} {j : Nat} : (pg.map Pg.taken).getD j false = (pg.getD j .free).taken := by
 rw [List.getD_eq_getElem?_getD, List.getD_eq_getElem?_getD, List.getElem?_map]
 cases pg[j]? <;> rfl
theorem taken_set {pg : List Pg} {i : Nat} {x : Pg} (hi : i < pg.length) : (pg.set i x).map Pg.taken = Sp.setR (pg.map Pg.taken) x.taken i 1 := by
 apply bits_ext
 ·rw [Sp.setR_len]; simp
 ·intro j hj
  simp only [List.length_map, List.length_set] at hj
  rw [Sp.setR_get (by simpa using hj), taken_getD, taken_getD]
  by_cases hij : i = j
  ·subst hij
   rw [if_pos ⟨by omega, by omega⟩, List.getD_eq_getElem?_getD]; simp [hi]
  ·rw [if_neg (by omega), List.getD_eq_getElem?_getD, List.getElem?_set_ne hij, List.getD_eq_getElem?_getD]
theorem freeL_get {pg : List Pg} {i k j : Nat} : (Sp.freeL pg i k)[j]? = if j < pg.length then some (if i ≤ j ∧ j < i + k then Pg.free else pg.getD j .free) else none := by
 unfold Sp.freeL
 rw [List.getElem?_mapIdx]
 by_cases hj : j < pg.length
 ·rw [if_pos hj, List.getElem?_eq_getElem hj, List.getD_eq_getElem?_getD, List.getElem?_eq_getElem hj]; rfl
 ·rw [if_neg hj, List.getElem?_eq_none (by omega)]; rfl
theorem freeL_len {pg : List Pg} {i k : Nat} : (Sp.freeL pg i k).length = pg.length := by simp [Sp.freeL]
theorem getD_of {pg : List Pg} {j : Nat} {x : Pg} (h : pg[j]? = some x) : pg.getD j .free = x := by rw [List.getD_eq_getElem?_getD, h]; rfl
theorem of_getD {pg : List Pg} {j : Nat} (h : j < pg.length) : pg[j]? = some (pg.getD j .free) := by rw [List.getD_eq_getElem?_getD, List.getElem?_eq_getElem h]; rfl
theorem taken_freeL {pg : List Pg} {i k : Nat} : (Sp.freeL pg i k).map Pg.taken = Sp.setR (pg.map Pg.taken) false i k := by
 apply bits_ext
 ·rw [Sp.setR_len]; simp [Sp.freeL]
 ·intro j hj
  have hj : j < pg.length := by simpa [Sp.freeL] using hj
  rw [Sp.setR_get (by simpa using hj), taken_getD, taken_getD]
  rw [List.getD_eq_getElem?_getD, freeL_get, if_pos hj]
  by_cases h2 : i ≤ j ∧ j < i + k
  ·rw [if_pos h2, if_pos h2]; rfl
  ·rw [if_neg h2, if_neg h2]; rfl
theorem heads_set {pg : List Pg} {i : Nat} {x : Pg} (h0 : ∀ k, pg[i]? ≠ some (.head k)) (h1 : ∀ k, x ≠ .head k) (j : Nat) (k : Nat) : pg[j]? = some (.head k) ↔ (pg.set i x)[j]? = some (.head k) := by
 by_cases hij : i = j
 ·subst hij
  rw [List.getElem?_set]
  constructor
  ·intro h; exact absurd h (h0 k)
  ·intro h; simp at h; exact absurd h.2 (h1 k)
 ·rw [List.getElem?_set_ne hij]
end Go.Proofs.YtdplphebjhfliaaGreat
namespace Go.Proofs.YtdplphebjhfliaaGreat
open Go Go.Gl
variable {ρ0 ρ : FR} {L L' : List Asn} {Post : Value → List Asn → Prop} {T : Tree}
theorem freeL_off {pg : List Pg} {i k j : Nat} (hj : ¬ (i ≤ j ∧ j < i + k)) : (Sp.freeL pg i k)[j]? = pg[j]? := by
 rw [freeL_get]
 by_cases h : j < pg.length
 ·rw [if_pos h, if_neg hj, of_getD h]
 ·rw [if_neg h, List.getElem?_eq_none (by omega)]
end Go.Proofs.YtdplphebjhfliaaGreat
