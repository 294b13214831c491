/- Marks: plainly; stacks: contracts. -/
import Derived.Test.YtapchggmifbfoaaGreatGlLaw5
import Derived.Test.YtapchggmifbfoaaGreatGlEz
import Derived.Test.YtapchggmifbfoaaGreatGlTm
set_option linter.unusedSimpArgs false
set_option linter.unusedVariables false
namespace Go.Proofs.YtapchggmifbfoaaGreat
open Go Go.Gl
variable {ρ0 ρ : FR} {L L' : List Asn} {Post : Value → List Asn → Prop} {T : Tree}

namespace Mk
def kid (S : Spc) (a i : Int) : Option Int := if (Ob.get S a i).2 = 0 then some (Ob.get S a i).1 else none
/-- what an object's addresses lead to -/
def kids (S : Spc) (cs : List Cls) (a : Int) : List Int := (Ob.refs S cs a).filterMap (kid S a)
def obj (S : Spc) (a : Int) : Prop := (Ob.head S a).isSome = true
/-- what is led to from some -/
inductive Rch (S : Spc) (cs : List Cls) (R : List Int) : Int → Prop
  | root {a : Int} (h : a ∈ R) (ho : obj S a) : Rch S cs R a
  | step {a b : Int} (h : Rch S cs R a) (hb : b ∈ kids S cs a) (ho : obj S b) : Rch S cs R b
theorem Rch.obj {S : Spc} {cs : List Cls} {R : List Int} {a : Int} (h : Rch S cs R a) : Mk.obj S a := by cases h <;> assumption
structure St where
  m : List Bool
  stk : List Int
  over : Bool
  deep : Int
def push (room : Nat) (l : List Int) (x : Int) : List Int := if l.length < room then l ++ [x] else l
/-- one is marked, and pushed -/
def one (S : Spc) (room : Nat) (st : St) (x : Int) : St :=
  if Sp.has st.m x = true then st else if Ob.head S x = none then st else
    ⟨st.m.set x.toNat true, push room st.stk x, st.over || decide (room ≤ st.stk.length), if ((push room st.stk x).length : Int) > st.deep then ((push room st.stk x).length : Int) else st.deep⟩
/-- what an object's fields lead to is marked -/
def fields (S : Spc) (cs : List Cls) (room : Nat) (st : St) (a : Int) : St := (kids S cs a).foldl (one S room) st
/-- marks are of objects, and of all that they lead to -/
structure Closed (S : Spc) (cs : List Cls) (m : List Bool) : Prop where
  len : m.length = S.ws.length
  obj : ∀ a, Sp.has m a = true → Mk.obj S a
  kid : ∀ a, Sp.has m a = true → ∀ b ∈ kids S cs a, Mk.obj S b → Sp.has m b = true

theorem obj_in {S : Spc} {cs : List Cls} (hw : HWf S cs) {a : Int} (h : obj S a) : 0 ≤ a ∧ a.toNat < S.ws.length := by
  unfold obj at h
  cases hh : Ob.head S a with
  | none => rw [hh] at h; cases h
  | some hd =>
    obtain ⟨n, w, rfl, _, _, g3, g4, g5⟩ := Ob.head_is hw hh
    have := Sp.mayH_is g3
    omega
theorem has_set {m : List Bool} {x a : Int} (hx : 0 ≤ x) (hl : x.toNat < m.length) : Sp.has (m.set x.toNat true) a = (decide (a = x) || Sp.has m a) := by
  unfold Sp.has
  by_cases ha : 0 ≤ a
  · rw [decide_eq_true ha, Bool.true_and, Bool.true_and, List.getD_eq_getElem?_getD, List.getElem?_set]
    by_cases he : x.toNat = a.toNat
    · rw [if_pos he, if_pos hl, decide_eq_true (by omega)]; rfl
    · rw [if_neg he, decide_eq_false (by omega), Bool.false_or, List.getD_eq_getElem?_getD]
  · rw [decide_eq_false ha, decide_eq_false (by omega)]; rfl
theorem count_set {m : List Bool} {i : Nat} (hl : i < m.length) (h : m.getD i false = false) : (m.set i true).count false + 1 = m.count false := by
  induction m generalizing i with
  | nil => simp at hl
  | cons b m ih =>
    cases i with
    | zero => simp at h; subst h; simp
    | succ i =>
      have := ih (i := i) (by simpa using hl) (by simpa using h)
      simp only [List.set_cons_succ, List.count_cons]
      omega

/-- what holds on the way: marks m0 that were there, T what may be marked, E whose fields are yet to be gone through, c marks to be made before one was lost -/
structure Inv (S : Spc) (cs : List Cls) (room : Nat) (m0 : List Bool) (T : Int → Prop) (c : Nat) (st : St) (E : List Int) : Prop where
  len : st.m.length = S.ws.length
  old : ∀ a, Sp.has m0 a = true → Sp.has st.m a = true
  new : ∀ a, Sp.has st.m a = true → Sp.has m0 a = true ∨ T a
  obj : ∀ a, Sp.has st.m a = true → Mk.obj S a
  done : st.over = false → ∀ a, Sp.has st.m a = true → a ∈ st.stk ∨ a ∈ E ∨ ∀ b ∈ kids S cs a, Mk.obj S b → Sp.has st.m b = true
  stk : ∀ a ∈ st.stk, Sp.has st.m a = true
  small : st.stk.length ≤ room
  deep0 : 0 ≤ st.deep
  deep1 : st.deep ≤ room
  lost : st.over = true → st.m.count false < c

variable {S : Spc} {cs : List Cls} {room : Nat} {m0 : List Bool} {R : Int → Prop} {c : Nat} {st : St} {E : List Int}
theorem push_len {l : List Int} {x : Int} (h : l.length ≤ room) : (push room l x).length ≤ room ∧ l.length ≤ (push room l x).length := by
  unfold push; split <;> simp <;> omega
theorem one_mono (S : Spc) (room : Nat) (st : St) (x : Int) {a : Int} (hw : HWf S cs) (hl : st.m.length = S.ws.length) (h : Sp.has st.m a = true) : Sp.has (one S room st x).m a = true := by
  unfold one
  split
  · exact h
  · split
    · exact h
    · rename_i h1 h2
      have ho : Mk.obj S x := by unfold Mk.obj; cases hh : Ob.head S x with
        | none => exact absurd hh h2
        | some y => rfl
      obtain ⟨g1, g2⟩ := obj_in hw ho
      dsimp only
      rw [has_set g1 (by omega), h, Bool.or_true]
theorem one_len (S : Spc) (room : Nat) (st : St) (x : Int) : (one S room st x).m.length = st.m.length := by
  unfold one
  split
  · rfl
  · split
    · rfl
    · simp
theorem one_has (hw : HWf S cs) (hl : st.m.length = S.ws.length) {x : Int} (ho : Mk.obj S x) : Sp.has (one S room st x).m x = true := by
  unfold one
  split
  · assumption
  · split
    · rename_i h2; unfold Mk.obj at ho; rw [h2] at ho; cases ho
    · obtain ⟨g1, g2⟩ := obj_in hw ho
      dsimp only
      rw [has_set g1 (by omega), decide_eq_true rfl]; rfl
/-- how much is left to do -/
def todo (st : St) : Nat := 2 * st.m.count false + st.stk.length
theorem one_todo (hw : HWf S cs) (hl : st.m.length = S.ws.length) (x : Int) : todo (one S room st x) ≤ todo st := by
  unfold one
  split
  · exact Nat.le_refl _
  · split
    · exact Nat.le_refl _
    · rename_i h1 h2
      have ho : Mk.obj S x := by unfold Mk.obj; cases hh : Ob.head S x with
        | none => exact absurd hh h2
        | some y => rfl
      obtain ⟨g1, g2⟩ := obj_in hw ho
      have hg : st.m.getD x.toNat false = false := by
        cases hg : st.m.getD x.toNat false with
        | false => rfl
        | true => unfold Sp.has at h1; rw [hg, decide_eq_true g1] at h1; exact absurd rfl h1
      have hc := count_set (m := st.m) (i := x.toNat) (by omega) hg
      unfold todo
      dsimp only
      have : (push room st.stk x).length ≤ st.stk.length + 1 := by unfold push; split <;> simp
      omega
theorem Inv.one (hw : HWf S cs) (H : Inv S cs room m0 R c st E) {x : Int} (hx : Mk.obj S x → Sp.has m0 x = true ∨ R x) (hc : st.m.count false ≤ c) : Inv S cs room m0 R c (Mk.one S room st x) E := by
  unfold Mk.one
  split
  · exact H
  · rename_i h1
    split
    · exact H
    · rename_i h2
      have ho : Mk.obj S x := by unfold Mk.obj; cases hh : Ob.head S x with
        | none => exact absurd hh h2
        | some y => rfl
      obtain ⟨g1, g2⟩ := obj_in hw ho
      have hl := H.len
      have hg : st.m.getD x.toNat false = false := by
        cases hg : st.m.getD x.toNat false with
        | false => rfl
        | true => unfold Sp.has at h1; rw [hg, decide_eq_true g1] at h1; exact absurd rfl h1
      have hcnt := count_set (m := st.m) (i := x.toNat) (by omega) hg
      have hhas : ∀ a, Sp.has (st.m.set x.toNat true) a = (decide (a = x) || Sp.has st.m a) := fun a => has_set g1 (by omega)
      have hup : ∀ a, Sp.has st.m a = true → Sp.has (st.m.set x.toNat true) a = true := fun a h => by rw [hhas, h, Bool.or_true]
      obtain ⟨p1, p2⟩ := push_len (x := x) H.small
      refine ⟨by simp [hl], fun a h => hup a (H.old a h), fun a h => ?_, fun a h => ?_, fun hov a h => ?_, fun a h => ?_, p1, ?_, ?_, fun _ => by dsimp only; omega⟩
      · dsimp only at h
        rw [hhas, Bool.or_eq_true, decide_eq_true_iff] at h
        rcases h with rfl | h
        · exact hx ho
        · exact H.new a h
      · dsimp only at h
        rw [hhas, Bool.or_eq_true, decide_eq_true_iff] at h
        rcases h with rfl | h
        · exact ho
        · exact H.obj a h
      · dsimp only at hov h ⊢
        rw [Bool.or_eq_false_iff, decide_eq_false_iff_not] at hov
        have hpush : push room st.stk x = st.stk ++ [x] := by unfold push; rw [if_pos (by omega)]
        rw [hpush]
        rw [hhas, Bool.or_eq_true, decide_eq_true_iff] at h
        rcases h with rfl | h
        · exact .inl (by simp)
        · rcases H.done hov.1 a h with h' | h' | h'
          · exact .inl (List.mem_append_left _ h')
          · exact .inr (.inl h')
          · exact .inr (.inr fun b hb hob => hup b (h' b hb hob))
      · dsimp only at h ⊢
        unfold push at h
        split at h
        · rcases List.mem_append.mp h with h | h
          · exact hup a (H.stk a h)
          · rw [hhas, decide_eq_true (by simpa using h)]; rfl
        · exact hup a (H.stk a h)
      · have := H.deep0
        dsimp only; split <;> omega
      · have := H.deep1
        dsimp only; split <;> omega
theorem one_count (hw : HWf S cs) (hl : st.m.length = S.ws.length) (x : Int) : (Mk.one S room st x).m.count false ≤ st.m.count false := by
  unfold Mk.one
  split
  · exact Nat.le_refl _
  · split
    · exact Nat.le_refl _
    · rename_i h1 h2
      have ho : Mk.obj S x := by unfold Mk.obj; cases hh : Ob.head S x with
        | none => exact absurd hh h2
        | some y => rfl
      obtain ⟨g1, g2⟩ := obj_in hw ho
      have hg : st.m.getD x.toNat false = false := by
        cases hg : st.m.getD x.toNat false with
        | false => rfl
        | true => unfold Sp.has at h1; rw [hg, decide_eq_true g1] at h1; exact absurd rfl h1
      have hc := count_set (m := st.m) (i := x.toNat) (by omega) hg
      dsimp only; omega
/-- several are marked -/
theorem Inv.many (hw : HWf S cs) : ∀ (l : List Int) {st : St}, Inv S cs room m0 R c st E → (∀ x ∈ l, Mk.obj S x → Sp.has m0 x = true ∨ R x) → st.m.count false ≤ c →
    Inv S cs room m0 R c (l.foldl (Mk.one S room) st) E ∧ (l.foldl (Mk.one S room) st).m.count false ≤ st.m.count false ∧ todo (l.foldl (Mk.one S room) st) ≤ todo st ∧ (∀ a, Sp.has st.m a = true → Sp.has (l.foldl (Mk.one S room) st).m a = true) ∧ ∀ x ∈ l, Mk.obj S x → Sp.has (l.foldl (Mk.one S room) st).m x = true
  | [], st, H, _, _ => ⟨H, Nat.le_refl _, Nat.le_refl _, fun _ h => h, by simp⟩
  | x :: l, st, H, hx, hc => by
    have h1 := H.one hw (hx x List.mem_cons_self) hc
    have hc1 := one_count (room := room) hw H.len x
    obtain ⟨i1, i2, i3, i4, i5⟩ := Inv.many hw l h1 (fun y hy => hx y (List.mem_cons_of_mem _ hy)) (by omega)
    rw [List.foldl_cons]
    refine ⟨i1, by omega, Nat.le_trans i3 (one_todo hw H.len x), fun a h => i4 a (one_mono S room st x hw H.len h), fun y hy ho => ?_⟩
    rcases List.mem_cons.mp hy with rfl | hy
    · exact i4 _ (one_has hw H.len ho)
    · exact i5 y hy ho
/-- an object's fields are gone through -/
theorem Inv.fields (hw : HWf S cs) (hm0 : Closed S cs m0) (hR : ∀ a, R a → ∀ b ∈ kids S cs a, Mk.obj S b → R b) {a : Int} (H : Inv S cs room m0 R c st (a :: E)) (ha : Sp.has st.m a = true) (hc : st.m.count false ≤ c) :
    Inv S cs room m0 R c (Mk.fields S cs room st a) E ∧ (Mk.fields S cs room st a).m.count false ≤ st.m.count false ∧ todo (Mk.fields S cs room st a) ≤ todo st ∧ ∀ b, Sp.has st.m b = true → Sp.has (Mk.fields S cs room st a).m b = true := by
  obtain ⟨i1, i2, i3, i4, i5⟩ := Inv.many hw (kids S cs a) H (fun x hx ho => by
    rcases H.new a ha with h | h
    · exact .inl (hm0.kid a h x hx ho)
    · exact .inr (hR a h x hx ho)) hc
  refine ⟨⟨i1.len, i1.old, i1.new, i1.obj, fun hov b hb => ?_, i1.stk, i1.small, i1.deep0, i1.deep1, i1.lost⟩, i2, i3, i4⟩
  rcases i1.done hov b hb with h | h | h
  · exact .inl h
  · rcases List.mem_cons.mp h with rfl | h
    · exact .inr (.inr i5)
    · exact .inr (.inl h)
  · exact .inr (.inr h)
/-- the last one is taken -/
theorem Inv.pop {l : List Int} {a : Int} (H : Inv S cs room m0 R c st E) (hs : st.stk = l ++ [a]) : Inv S cs room m0 R c { st with stk := l } (a :: E) ∧ Sp.has st.m a = true := by
  refine ⟨⟨H.len, H.old, H.new, H.obj, fun hov b hb => ?_, fun b hb => H.stk b (by rw [hs]; exact List.mem_append_left _ hb), ?_, H.deep0, H.deep1, H.lost⟩, H.stk a (by rw [hs]; simp)⟩
  · rcases H.done hov b hb with h | h | h
    · rw [hs] at h
      rcases List.mem_append.mp h with h | h
      · exact .inl h
      · exact .inr (.inl (by simp at h; simp [h]))
    · exact .inr (.inl (List.mem_cons_of_mem _ h))
    · exact .inr (.inr h)
  · have := H.small
    rw [hs] at this
    simp at this; dsimp only; omega
/-- all is done -/
theorem Inv.over (hm0 : Closed S cs m0) (H : Inv S cs room m0 R c st []) (hs : st.stk = []) (ho : st.over = false) : Closed S cs st.m := by
  refine ⟨H.len, H.obj, fun a ha => ?_⟩
  rcases H.done ho a ha with h | h | h
  · rw [hs] at h; cases h
  · cases h
  · exact h
theorem Closed.rch {m : List Bool} {l : List Int} (h : Closed S cs m) (hr : ∀ a ∈ l, Mk.obj S a → Sp.has m a = true) {a : Int} (ha : Rch S cs l a) : Sp.has m a = true := by
  induction ha with
  | root h' ho => exact hr _ h' ho
  | step _ hb ho ih => exact h.kid _ ih _ hb ho
/-- all marks, rising -/
def all (m : List Bool) : List Int := ((List.range m.length).filter fun i => m.getD i false).map fun i : Nat => (i : Int)
theorem mem_all {m : List Bool} {a : Int} : a ∈ all m ↔ Sp.has m a = true := by
  unfold all Sp.has
  rw [List.mem_map]
  constructor
  · rintro ⟨i, hi, rfl⟩
    rw [List.mem_filter] at hi
    rw [decide_eq_true (by omega), Bool.true_and, Int.toNat_natCast]; exact hi.2
  · intro h
    rw [Bool.and_eq_true, decide_eq_true_iff] at h
    refine ⟨a.toNat, ?_, by omega⟩
    rw [List.mem_filter, List.mem_range]
    refine ⟨?_, h.2⟩
    rcases Nat.lt_or_ge a.toNat m.length with c | c
    · exact c
    · have := h.2; rw [List.getD_eq_getElem?_getD, List.getElem?_eq_none c] at this; cases this
theorem all_len {m : List Bool} : (all m).length ≤ m.length := by
  unfold all; rw [List.length_map]; exact Nat.le_trans (List.length_filter_le _ _) (by simp)
/-- marks are told by what is marked -/
theorem has_ext {m m' : List Bool} (hl : m.length = m'.length) (h : ∀ a, Sp.has m a = Sp.has m' a) : m = m' := by
  refine List.ext_getElem hl fun j h1 h2 => ?_
  have := h (j : Int)
  unfold Sp.has at this
  rw [decide_eq_true (by omega), Bool.true_and, Bool.true_and, Int.toNat_natCast, List.getD_eq_getElem?_getD, List.getD_eq_getElem?_getD, List.getElem?_eq_getElem h1, List.getElem?_eq_getElem h2] at this
  exact this
end Mk

/-! ### stacks -/
def StkA (p : Nat) (l : List Int) (room : Nat) (over : Bool) : Asn := fun h => ∃ s : Slc, star [blk p [.slice s.a s.n s.c, i64 room, .bool over], SLc s 1 (l.map i64)] h
theorem StkA.op {p : Nat} {l : List Int} {room : Nat} {over : Bool} (t : Take L (StkA p l room over) L') (h : ∀ s : Slc, Tr ρ0 ρ (blk p [.slice s.a s.n s.c, i64 room, .bool over] :: SLc s 1 (l.map i64) :: L') T Post) : Tr ρ0 ρ L T Post :=
  Tr.openL (M := fun s : Slc => [blk p [.slice s.a s.n s.c, i64 room, .bool over], SLc s 1 (l.map i64)]) (c := fun _ => True) t (fun _ ⟨s, h⟩ => ⟨s, trivial, h⟩) fun s _ => h s
theorem StkA.cl {p : Nat} {l : List Int} {room : Nat} {over : Bool} {s : Slc} (h : HP) (H : star [blk p [.slice s.a s.n s.c, i64 room, .bool over], SLc s 1 (l.map i64)] h) : StkA p l room over h := ⟨s, H⟩

theorem stack_new (n : Int) (h0 : 1 ≤ n) (h1 : n ≤ 4096) : Gl.Spec ρ Tryz.prog 85 [i64 n] [] PE fun r M => ∃ b, r = (some ⟨b, 0, none⟩, 0, ()) ∧ M = [StkA b [] n.toNat false] := by
  refine Spec.of (fun Q w h => F.stack.New.calls n h) fun R => ?_
  unfold F.stack.New
  try simp only [List.cons_append, List.nil_append]
  refine en_brf (decide_eq_false (by omega)) (en_brf (decide_eq_false (by omega)) (en_nw fun b => ?_))
  refine Tr.nilSL 1 ?_
  refine Tr.imp (A := blk b [.slice none 0 0, .int .i64 n, .bool false]) (A' := blk b [.slice none 0 0, i64 (n.toNat : Nat), .bool false]) tk (fun h H => by rw [show ((n.toNat : Nat) : Int) = n by omega]; exact H) ?_
  refine Tr.close (M := [blk b [.slice none 0 0, i64 (n.toNat : Nat), .bool false], SLc ⟨none, 0, 0⟩ 1 []]) tks (StkA.cl (p := b) (l := []) (room := n.toNat) (over := false) (s := ⟨none, 0, 0⟩)) ?_
  exact en_rets (x := (some ⟨b, 0, none⟩, (0 : Int), ())) rfl ⟨b, rfl, rfl⟩ tks ens
theorem stack_new0 (n : Int) (h0 : ¬ (1 ≤ n ∧ n ≤ 4096)) : Gl.Spec ρ Tryz.prog 85 [i64 n] [] PE fun r M => r = (none, 1, ()) ∧ M = [] := by
  refine Spec.of (fun Q w h => F.stack.New.calls n h) fun R => ?_
  unfold F.stack.New
  try simp only [List.cons_append, List.nil_append]
  refine en_br (fun _ => ?_) (fun h => en_brt (decide_eq_true ?_) ?_)
  · exact en_rets (x := (none, (1 : Int), ())) rfl ⟨rfl, rfl⟩ tks ens
  · have := of_decide_eq_false h; omega
  · exact en_rets (x := (none, (1 : Int), ())) rfl ⟨rfl, rfl⟩ tks ens
theorem stack_depth (p : Nat) (l : List Int) (room : Nat) (over : Bool) : Gl.Spec ρ Tryz.prog 131 [.pointer (some ⟨p, 0, none⟩)] [StkA p l room over] R1 fun r M => r = (l.length : Nat) ∧ M = [StkA p l room over] := by
  refine Spec.of (fun Q w h => F.stack.Stack.Depth.calls (some ⟨p, 0, none⟩) h) fun R => ?_
  unfold F.stack.Stack.Depth
  try simp only [List.cons_append, List.nil_append]
  refine en_brf rfl (en_nn (StkA.op tk fun s => ?_))
  refine en_ld (k := .slice) (b := p) (off := 0) (x := s) (by rw [fa_mk]) tk rfl ?_
  refine Tr.nlen (s := s) (xs := l) tk fun hs => ?_
  refine Tr.close tks (StkA.cl (p := p) (l := l) (room := room) (over := over) (s := s)) ?_
  rw [hs]
  exact en_rets (x := ((l.length : Nat) : Int)) rfl ⟨rfl, rfl⟩ tks ens
theorem stack_over (p : Nat) (l : List Int) (room : Nat) (over : Bool) : Gl.Spec ρ Tryz.prog 90 [.pointer (some ⟨p, 0, none⟩)] [StkA p l room over] RB fun r M => r = over ∧ M = [StkA p l room over] := by
  refine Spec.of (fun Q w h => F.stack.Stack.Over.calls (some ⟨p, 0, none⟩) h) fun R => ?_
  unfold F.stack.Stack.Over
  try simp only [List.cons_append, List.nil_append]
  refine en_brt rfl (en_nn (StkA.op tk fun s => ?_))
  refine en_ld (k := .bool) (b := p) (off := 2) (x := over) (by rw [fa_mk]) tk rfl ?_
  refine Tr.close tks (StkA.cl (p := p) (l := l) (room := room) (over := over) (s := s)) ?_
  exact en_rets (x := over) rfl ⟨rfl, rfl⟩ tks ens
theorem stack_reset (p : Nat) (l : List Int) (room : Nat) (over : Bool) : Gl.Spec ρ Tryz.prog 91 [.pointer (some ⟨p, 0, none⟩)] [StkA p l room over] (.many []) fun r M => M = [StkA p l room false] := by
  refine Spec.of (fun Q w h => F.stack.Stack.Reset.calls (some ⟨p, 0, none⟩) h) fun R => ?_
  unfold F.stack.Stack.Reset
  try simp only [List.cons_append, List.nil_append]
  refine en_brt rfl (en_nn (StkA.op tk fun s => ?_))
  refine en_st (b := p) (off := 2) (by rw [fa_mk]) tk (by simp) rfl ?_
  refine Tr.close (M := [blk p [.slice s.a s.n s.c, i64 room, .bool false], SLc s 1 (l.map i64)]) tks (StkA.cl (p := p) (l := l) (room := room) (over := false) (s := s)) ?_
  exact en_rets (x := ()) rfl rfl tks ens

theorem stack_push (p : Nat) (l : List Int) (room : Nat) (over : Bool) (x : Int) (b : Nat) (hs : RoS ρ ⟨some ⟨b, 0, none⟩, 1, 1⟩ 1 ([x].map i64)) (hl : l.length ≤ room) (hr : room ≤ 4096) : Gl.Spec ρ Tryz.prog 130 [.pointer (some ⟨p, 0, none⟩), .slice (some ⟨b, 0, none⟩) 1 1] [StkA p l room over] R1
    fun _ M => M = [StkA p (Mk.push room l x) room (over || decide (room ≤ l.length))] := by
  refine Spec.of (fun Q w h => F.stack.Stack.Push.calls (some ⟨p, 0, none⟩) ⟨some ⟨b, 0, none⟩, 1, 1⟩ h) fun R => ?_
  unfold F.stack.Stack.Push
  try simp only [List.cons_append, List.nil_append]
  refine en_brf rfl (en_drw (en_nn (StkA.op tk fun s => ?_)))
  refine en_ld (k := .int .i64) (b := p) (off := 1) (x := (room : Int)) (by rw [fa_mk]) tk rfl ?_
  refine en_nn ?_
  refine en_ld (k := .slice) (b := p) (off := 0) (x := s) (by rw [fa_mk]) tk rfl ?_
  refine Tr.nlen (s := s) (xs := l) tk fun hsn => ?_
  rw [wrap64 (n := (room : Int) - ((s.n : Nat) : Int)) (by omega) (by omega)]
  refine en_drw (en_held [blk p [.slice s.a s.n s.c, i64 room, .bool over]] tks (en_nn ?_))
  refine en_ldS (k := .slice) (b := p) (off := 0) (x := s) (by rw [fa_mk]) tk rfl ?_
  have fin : ∀ (v : Int) (l' : List Int) (s' : Slc) (o : Bool), Mk.push room l x = l' → (over || o) = (over || decide (room ≤ l.length)) → (decide (v < 1) = o) → Tr ρ ρ (SLc s' 1 (l'.map i64) :: blk p [.slice s.a s.n s.c, i64 room, .bool over] :: R)
      (nn (some ⟨p, 0, none⟩) fun a10 => st (fa a10 0) [.slice s'.a s'.n s'.c] <| nn (some ⟨p, 0, none⟩) fun a11 => ld (.l .bool) (fa a11 2) fun (x12 : Bool) => br x12
        (nn (some ⟨p, 0, none⟩) fun a13 => st (fa a13 2) [.bool true] <| ret (.int .i64 v))
        (nn (some ⟨p, 0, none⟩) fun a13 => st (fa a13 2) [.bool (decide (v < (((1 : Nat) : Nat) : Int)))] <| ret (.int .i64 v)))
      (SP R1 (fun _ M => M = [StkA p (Mk.push room l x) room (over || decide (room ≤ l.length))]) R) := fun v l' s' o h1 h2 h3 => by
    refine en_nn ?_
    refine en_st (b := p) (off := 0) (by rw [fa_mk]) tk (by simp) rfl (en_nn ?_)
    refine en_ld (k := .bool) (b := p) (off := 2) (x := over) (by rw [fa_mk]) tk rfl ?_
    rw [h1, ← h2]
    refine en_br (fun h => ?_) (fun h => ?_)
    · refine en_nn ?_
      refine en_st (b := p) (off := 2) (by rw [fa_mk]) tk (by simp [setL]) rfl ?_
      rw [h]
      refine Tr.close (M := [blk p [.slice s'.a s'.n s'.c, i64 room, .bool true], SLc s' 1 (l'.map i64)]) tks (StkA.cl (p := p) (l := l') (room := room) (over := true) (s := s')) ?_
      exact en_rets (x := v) rfl rfl tks ens
    · refine en_nn ?_
      refine en_st (b := p) (off := 2) (by rw [fa_mk]) tk (by simp [setL]) rfl ?_
      rw [h]
      have h3' : decide (v < (((1 : Nat) : Nat) : Int)) = o := h3
      rw [h3']
      refine Tr.close (M := [blk p [.slice s'.a s'.n s'.c, i64 room, .bool o], SLc s' 1 (l'.map i64)]) tks (StkA.cl (p := p) (l := l') (room := room) (over := o) (s := s')) ?_
      exact en_rets (x := v) rfl rfl tks ens
  by_cases hc : l.length < room
  · have e : (if (room : Int) - ((s.n : Nat) : Int) < (((1 : Nat) : Nat) : Int) then (room : Int) - ((s.n : Nat) : Int) else (((1 : Nat) : Nat) : Int)) = 1 := by rw [if_neg (by omega)]; rfl
    rw [e]
    refine en_slc (by omega) (by omega) (by omega) ?_
    refine en_appS (s := s) (x := ⟨some ⟨b, 0, none⟩, 1, 1⟩) (xs := l) (ys := [x]) appInt tk (Rd.ro hs) (by simp; omega) fun r hr => ?_
    exact fin 1 (l ++ [x]) r false (by unfold Mk.push; rw [if_pos hc]) (by rw [decide_eq_false (by omega)]) rfl
  · have e : (if (room : Int) - ((s.n : Nat) : Int) < (((1 : Nat) : Nat) : Int) then (room : Int) - ((s.n : Nat) : Int) else (((1 : Nat) : Nat) : Int)) = 0 := by rw [if_pos (by omega)]; omega
    rw [e]
    refine en_slc (by omega) (by omega) (by omega) ?_
    refine en_appS (s := s) (x := ⟨some ⟨b, 0, none⟩, 0, 1⟩) (xs := l) (ys := []) appInt tk ⟨by simp, fun _ _ => .inl rfl⟩ (by simp; omega) fun r hr => ?_
    rw [List.append_nil]
    exact fin 0 l r true (by unfold Mk.push; rw [if_neg hc]) (by rw [decide_eq_true (by omega)]) rfl

/-- an owned slice gets shorter -/
theorem SLc.shorter {s : Slc} {xs : List Int} {y : Int} (h : HP) (H : SLc s 1 ((xs ++ [y]).map i64) h) : SLc ⟨s.a, xs.length, s.c⟩ 1 (xs.map i64) h := by
  rcases H with ⟨_, _, _, g, _⟩ | ⟨b, off, pre, rest, g1, g2, g3, g4, g5, g6⟩
  · simp at g
  · right
    simp at g3
    refine ⟨b, off, pre, i64 y :: rest, g1, g2, by simp, by simp [g4]; omega, by dsimp only; omega, ?_⟩
    have e : pre ++ ((xs ++ [y]).map i64 ++ rest) = pre ++ (xs.map i64 ++ i64 y :: rest) := by simp
    rw [← e]; exact g6

theorem stack_pop (p : Nat) (l : List Int) (room : Nat) (over : Bool) (hr : l.length < 2 ^ 40) : Gl.Spec ρ Tryz.prog 132 [.pointer (some ⟨p, 0, none⟩)] [StkA p l room over] IB
    fun r M => (l = [] ∧ r = ((0 : Int), false, ()) ∧ M = [StkA p l room over]) ∨ ∃ l' a, l = l' ++ [a] ∧ r = ((a : Int), true, ()) ∧ M = [StkA p l' room over] := by
  refine Spec.of (fun Q w h => F.stack.Stack.Pop.calls (some ⟨p, 0, none⟩) h) fun R => ?_
  unfold F.stack.Stack.Pop
  try simp only [List.cons_append, List.nil_append]
  refine en_call (stack_depth p l room over) tks ?_
  rintro x' M ⟨rfl, rfl⟩
  try simp only [List.cons_append, List.nil_append]
  rcases List.eq_nil_or_concat l with rfl | ⟨l', a, e⟩
  · refine en_brt rfl ?_
    exact en_rets (x := ((0 : Int), false, ())) rfl (.inl ⟨rfl, rfl, rfl⟩) tks ens
  · rw [List.concat_eq_append] at e
    subst e
    rw [List.length_append, List.length_singleton] at hr ⊢
    refine en_brf (by simp; omega) (en_drw (en_nn (StkA.op tk fun s => ?_)))
    refine en_ld (k := .slice) (b := p) (off := 0) (x := s) (by rw [fa_mk]) tk rfl ?_
    refine en_nn ?_
    refine en_ld (k := .slice) (b := p) (off := 0) (x := s) (by rw [fa_mk]) tk rfl ?_
    refine Tr.sl_len (s := s) (m := 1) (xs := (l' ++ [a]).map i64) tk fun hs hsc => ?_
    simp at hs
    rw [wrap64 (n := ((s.n : Nat) : Int) - 1) (by omega) (by omega)]
    refine en_getSL (s := s) (xs := l' ++ [a]) tk (by omega) (by simp; omega) ?_
    rw [show (((s.n : Nat) : Int) - 1).toNat = l'.length by omega]
    have hg : (l' ++ [a]).getD l'.length 0 = a := by rw [List.getD_eq_getElem?_getD, List.getElem?_append_right (Nat.le_refl _), Nat.sub_self]; rfl
    rw [hg]
    refine en_drw (en_nn ?_)
    refine en_ld (k := .slice) (b := p) (off := 0) (x := s) (by rw [fa_mk]) tk rfl ?_
    refine en_nn ?_
    refine en_ld (k := .slice) (b := p) (off := 0) (x := s) (by rw [fa_mk]) tk rfl ?_
    rw [wrap64 (n := ((s.n : Nat) : Int) - 1) (by omega) (by omega)]
    refine en_slc (by omega) (by omega) (by omega) ?_
    refine en_nn ?_
    have e1 : (if s.c = (0 : Int).toNat then s.a else s.a.map fun b => fa b ((0 : Int).toNat * 1)) = s.a := by
      split
      · rfl
      · cases s.a <;> rfl
    have e2 : (((s.n : Nat) : Int) - 1).toNat - (0 : Int).toNat = l'.length := by rw [show (0 : Int).toNat = 0 from rfl]; omega
    rw [e1, e2, show s.c - (0 : Int).toNat = s.c from rfl]
    refine en_st (b := p) (off := 0) (by rw [fa_mk]) tk (by simp) rfl ?_
    refine Tr.imp (A := SLc s 1 ((l' ++ [a]).map i64)) (A' := SLc ⟨s.a, l'.length, s.c⟩ 1 (l'.map i64)) tk SLc.shorter ?_
    refine Tr.close (M := [blk p [.slice s.a l'.length s.c, i64 room, .bool over], SLc ⟨s.a, l'.length, s.c⟩ 1 (l'.map i64)]) tks (StkA.cl (p := p) (l := l') (room := room) (over := over) (s := ⟨s.a, l'.length, s.c⟩)) ?_
    exact en_rets (x := ((a : Int), true, ())) rfl (.inr ⟨l', a, rfl, rfl, rfl⟩) tks ens

end Go.Proofs.YtapchggmifbfoaaGreat
