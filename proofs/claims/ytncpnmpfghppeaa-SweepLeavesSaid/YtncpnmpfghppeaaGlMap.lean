/- Maps by int keys: pieces and rules. -/
import Derived.Test.YtncpnmpfghppeaaGlOp
set_option linter.unusedSimpArgs false
set_option linter.unusedVariables false
namespace Go.Gl
open Go

section
variable {α : Type}
def aget (k : Int) : List (Int × α) → Option α
  | [] => none | x :: l => if x.1 = k then some x.2 else aget k l
def aset (k : Int) (a : α) : List (Int × α) → List (Int × α)
  | [] => [(k, a)] | x :: l => if x.1 = k then (k, a) :: l else x :: aset k a l
def adel (k : Int) : List (Int × α) → List (Int × α)
  | [] => [] | x :: l => if x.1 = k then l else x :: adel k l
def afind (f : α → Value) (k : Int) : List (Int × α) → Nat → Option (Nat × Value)
  | [], _ => none | x :: l, i => if x.1 = k then some (i, f x.2) else afind f k l (i + 1)

theorem afind_spec (f : α → Value) (k : Int) : ∀ (l : List (Int × α)) (i : Nat),
    (afind f k l i = none ∧ aget k l = none ∧ (∀ a, aset k a l = l ++ [(k, a)]) ∧ adel k l = l ∧ k ∉ l.map (·.1)) ∨
    ∃ j a, afind f k l i = some (i + j, f a) ∧ aget k l = some a ∧ l[j]? = some (k, a) ∧ (∀ a', aset k a' l = l.set j (k, a')) ∧ adel k l = l.eraseIdx j := by
  intro l
  induction l with
  | nil => intro i; exact .inl ⟨rfl, rfl, fun _ => rfl, rfl, by simp⟩
  | cons x l ih =>
    intro i
    by_cases hx : x.1 = k
    · refine .inr ⟨0, x.2, by simp [afind, hx], by simp [aget, hx], by simp [← hx], fun a' => by simp [aset, hx], by simp [adel, hx]⟩
    · rcases ih (i + 1) with ⟨h1, h2, h3, h4, h5⟩ | ⟨j, a, h1, h2, h3, h4, h5⟩
      · refine .inl ⟨by simp [afind, hx, h1], by simp [aget, hx, h2], fun a => by simp [aset, hx, h3], by simp [adel, hx, h4], ?_⟩
        simp only [List.map_cons, List.mem_cons, not_or]
        exact ⟨fun h => hx h.symm, h5⟩
      · exact .inr ⟨j + 1, a, by simp [afind, hx, h1]; omega, by simp [aget, hx, h2], by simpa using h3, fun a' => by simp [aset, hx, h4], by simp [adel, hx, h5]⟩

/-- entries as they lie -/
structure Ents (f : α → Value) (es : List MapEntry) (clock : Nat) (l : List (Int × α)) : Prop where
  kv : es.map (fun e => (e.key, e.val)) = l.map fun x => (.int .i64 x.1, f x.2)
  old : ∀ e ∈ es, e.born < clock
  nod : (es.map (·.born)).Nodup
  keys : (l.map (·.1)).Nodup

/-- a map -/
def IM (b : Nat) (f : α → Value) (l : List (Int × α)) : Asn := fun h => ∃ es clock, Ents f es clock l ∧ mp b es.toArray clock h

theorem findNow_ents {f : α → Value} (k : Int) : ∀ (es : List MapEntry) (l : List (Int × α)) (i : Nat), es.map (fun e => (e.key, e.val)) = l.map (fun x => (.int .i64 x.1, f x.2)) →
    Instr.findNow (.int .i64) (.int .i64 k) es i = some (afind f k l i) := by
  intro es
  induction es with
  | nil => intro l i h; cases l with
    | nil => rfl
    | cons x l => simp at h
  | cons e es ih => intro l i h; cases l with
    | nil => simp at h
    | cons x l =>
      simp only [List.map_cons, List.cons.injEq, Prod.mk.injEq] at h
      obtain ⟨⟨h1, h2⟩, h3⟩ := h
      have hs : Instr.sameNow (.int .i64) (.int .i64 k) e.key = some (k == x.1) := by rw [h1]; simp [Instr.sameNow]
      unfold Instr.findNow
      rw [hs]
      by_cases hx : x.1 = k
      · have : (k == x.1) = true := by simp [hx]
        simp [this, afind, hx, h2]
      · have : (k == x.1) = false := by simp; exact fun h => hx h.symm
        simp [this, afind, hx, ih l (i + 1) h3]

theorem run_check {P : Program} {w : World} {kt : TypeId} (hd : P.underlying kt = some (.int .i64)) (k : Int) (e : Bool) : (Instr.checkKey e 10000 kt (.int .i64 k)).run P w = .ok () w := by
  unfold Instr.checkKey
  simp only [Sem.run_bind, Gl.run_underlying hd, Result.andThen]
  rfl
theorem run_find {P : Program} {w : World} {kt : TypeId} {f : α → Value} {es : List MapEntry} {l : List (Int × α)} (hd : P.underlying kt = some (.int .i64)) (k : Int) (h : es.map (fun e => (e.key, e.val)) = l.map (fun x => (.int .i64 x.1, f x.2))) :
    (Instr.findKey kt (.int .i64 k) es).run P w = .ok (afind f k l 0) w := by
  unfold Instr.findKey
  simp only [Sem.run_bind, Gl.run_underlying hd, Result.andThen, findNow_ents k es l 0 h, Sem.run_pure]
theorem run_getMap {P : Program} {w : World} {r : Nat} {es : Array MapEntry} {c : Nat} (hb : w.heap[r]? = some (.map es c)) : (getObj r).run P w = .ok (.map es c) w := by
  simp [getObj, Sem.run, hb]
theorem run_setMap {P : Program} {w : World} {r : Nat} {es : Array MapEntry} {c : Nat} {o' : Obj} (hb : w.heap[r]? = some (.map es c)) : (setObj r o').run P w = .ok () { w with heap := w.heap.setIfInBounds r o' } := by
  simp [setObj, Sem.run, hb]
theorem run_getIt {P : Program} {w : World} {r : Nat} {m : Option Nat} {s : Nat} {seen : Array Nat} {c : Nat} (hb : w.heap[r]? = some (.mapIter m s seen c)) : (getObj r).run P w = .ok (.mapIter m s seen c) w := by
  simp [getObj, Sem.run, hb]
theorem run_setIt {P : Program} {w : World} {r : Nat} {m : Option Nat} {s : Nat} {seen : Array Nat} {c : Nat} {o' : Obj} (hb : w.heap[r]? = some (.mapIter m s seen c)) : (setObj r o').run P w = .ok () { w with heap := w.heap.setIfInBounds r o' } := by
  simp [setObj, Sem.run, hb]
theorem setHeap {w : World} {r : Nat} {o o' : Obj} (hb : w.heap[r]? = some o) (c : Nat) : ({ w with heap := w.heap.setIfInBounds r o' } : World).heap[c]? = if c = r then some o' else w.heap[c]? := by
  have hr : r < w.heap.size := by
    rcases Nat.lt_or_ge r w.heap.size with h | h
    · exact h
    · simp [Array.getElem?_eq_none h] at hb
  simp only [Array.getElem?_setIfInBounds]
  by_cases hc : c = r
  · subst hc; simp [hr]
  · simp [hc, Ne.symm hc]

variable {ρ0 ρ : FR} {L L' : List Asn} {Post : Value → List Asn → Prop}

theorem Sat.exi {ι : Type} {c : ι → Prop} {A : ι → Asn} {w : World} (H : Sat ρ ((fun h => ∃ i, c i ∧ A i h) :: L) w) : ∃ i, c i ∧ Sat ρ (A i :: L) w := by
  obtain ⟨⟨h, ⟨h1, h2, hd, rfl, ⟨i, hc, ha⟩, hl⟩, hh⟩, h3⟩ := H
  exact ⟨i, hc, ⟨_, ⟨h1, h2, hd, rfl, ha, hl⟩, hh⟩, h3⟩
theorem Sat.im {b : Nat} {f : α → Value} {l : List (Int × α)} {w : World} (H : Sat ρ (IM b f l :: L) w) : ∃ es clock, Ents f es clock l ∧ Sat ρ (mp b es.toArray clock :: L) w := by
  obtain ⟨⟨h, ⟨h1, h2, hd, rfl, ⟨es, clock, hc, ha⟩, hl⟩, hh⟩, h3⟩ := H
  exact ⟨es, clock, hc, ⟨_, ⟨h1, h2, hd, rfl, ha, hl⟩, hh⟩, h3⟩
theorem Sat.toIm {b : Nat} {f : α → Value} {l : List (Int × α)} {es : List MapEntry} {clock : Nat} {w : World} (he : Ents f es clock l) (H : Sat ρ (mp b es.toArray clock :: L) w) : Sat ρ (IM b f l :: L) w :=
  Sat.imp (fun _ h => ⟨es, clock, he, h⟩) H

theorem en_nwIM {k : Nat → Tree} (f : α → Value) (h : ∀ b, Tr ρ0 ρ (IM b f [] :: L) (k b) Post) : Tr ρ0 ρ L (nwM k) Post :=
  en_nwM fun b => Tr.imp .here (fun _ hh => ⟨[], 0, ⟨rfl, by simp, by simp, by simp⟩, hh⟩) (h b)

theorem en_lkp2 {P : Program} {mt kt et : TypeId} {b : Nat} {f : α → Value} {l : List (Int × α)} {k : Int} {kd : LK} {g : α → LT kd} {z0 : LT kd} {K : RT (.many [.l kd, .l .bool]) → Tree}
    (hm : P.underlying mt = some (.map kt et)) (hk : P.underlying kt = some (.int .i64)) (hz : (P.info? et).bind (·.zero) = some (kd.val z0)) (hg : ∀ a, f a = kd.val (g a)) (t : Take L (IM b f l) L')
    (h : Tr ρ0 ρ L (K (match aget k l with | some a => (g a, true, ()) | none => (z0, false, ()))) Post) :
    Tr ρ0 ρ L (opr P (Instr.lookup mt (.map (some b)) (.int .i64 k) true) (.many [.l kd, .l .bool]) K) Post := by
  refine en_opr (fun r M => r = (match aget k l with | some a => (g a, true, ()) | none => (z0, false, ())) ∧ M = L) (fun w hw => ?_) (by rintro x M ⟨rfl, rfl⟩; exact h)
  obtain ⟨es, clock, he, hs⟩ := (hw.perm t.perm).im
  have hb := hs.pt
  refine ⟨_, w, L, ?_, ⟨rfl, rfl⟩, hw⟩
  unfold Instr.lookup
  simp only [Sem.run_bind, Gl.run_underlying hm, Result.andThen_ok, run_getMap hb, run_check hk, run_find hk k he.kv, Sem.run_pure]
  rcases afind_spec f k l 0 with ⟨h1, h2, _⟩ | ⟨j, a, h1, h2, _⟩
  · rw [h1, h2]
    simp only [Sem.run_bind, Gl.run_zero hz, Result.andThen_ok, Sem.run_pure]
    rfl
  · rw [h1, h2]
    simp only [Sem.run_pure, Result.andThen_ok, if_true, hg]
    rfl
theorem en_lkp1 {P : Program} {mt kt et : TypeId} {b : Nat} {f : α → Value} {l : List (Int × α)} {k : Int} {kd : LK} {g : α → LT kd} {z0 : LT kd} {K : RT (.one (.l kd)) → Tree}
    (hm : P.underlying mt = some (.map kt et)) (hk : P.underlying kt = some (.int .i64)) (hz : (P.info? et).bind (·.zero) = some (kd.val z0)) (hg : ∀ a, f a = kd.val (g a)) (t : Take L (IM b f l) L')
    (h : Tr ρ0 ρ L (K (match aget k l with | some a => g a | none => z0)) Post) :
    Tr ρ0 ρ L (opr P (Instr.lookup mt (.map (some b)) (.int .i64 k) false) (.one (.l kd)) K) Post := by
  refine en_opr (fun r M => r = (match aget k l with | some a => g a | none => z0) ∧ M = L) (fun w hw => ?_) (by rintro x M ⟨rfl, rfl⟩; exact h)
  obtain ⟨es, clock, he, hs⟩ := (hw.perm t.perm).im
  have hb := hs.pt
  refine ⟨_, w, L, ?_, ⟨rfl, rfl⟩, hw⟩
  unfold Instr.lookup
  simp only [Sem.run_bind, Gl.run_underlying hm, Result.andThen_ok, run_getMap hb, run_check hk, run_find hk k he.kv, Sem.run_pure]
  rcases afind_spec f k l 0 with ⟨h1, h2, _⟩ | ⟨j, a, h1, h2, _⟩
  · rw [h1, h2]
    simp only [Sem.run_bind, Gl.run_zero hz, Result.andThen_ok, Sem.run_pure]
    rfl
  · rw [h1, h2]
    simp only [Sem.run_pure, Result.andThen_ok, hg]
    rfl

theorem en_oprU {P : Program} {s : Sem Unit} {k : Tree} {M : List Asn} (hr : ∀ w, Sat ρ L w → ∃ w', s.run P w = .ok () w' ∧ Sat ρ M w') (h : Tr ρ0 ρ M k Post) : Tr ρ0 ρ L (oprU P s k) Post := fun hle w hw => by
  obtain ⟨w', h1, h2⟩ := hr w hw
  exact ⟨w', h1, h hle w' h2⟩

theorem map_eraseIdx' {β γ : Type} {g : β → γ} : ∀ {l : List β} {j : Nat}, (l.map g).eraseIdx j = (l.eraseIdx j).map g
  | [], _ => rfl
  | _ :: _, 0 => rfl
  | x :: l, j + 1 => by simp [map_eraseIdx' (l := l) (j := j)]
theorem set_getElem_kv {f : α → Value} {es : List MapEntry} {l : List (Int × α)} {j : Nat} {k : Int} {a a' : α} (h : es.map (fun e => (e.key, e.val)) = l.map (fun x => (.int .i64 x.1, f x.2))) (hj : l[j]? = some (k, a)) :
    (es.modify j fun e => { e with key := .int .i64 k, val := f a' }).map (fun e => (e.key, e.val)) = (l.set j (k, a')).map (fun x => (.int .i64 x.1, f x.2)) := by
  apply List.ext_getElem?
  intro i
  have hi := congrArg (fun l => l[i]?) h
  simp only [List.getElem?_map] at hi
  simp only [List.getElem?_map, List.getElem?_modify, List.getElem?_set]
  by_cases hji : j = i
  · subst hji
    have hl : j < l.length := by
      rcases Nat.lt_or_ge j l.length with h | h
      · exact h
      · rw [List.getElem?_eq_none h] at hj; cases hj
    rw [hj] at hi
    cases he : es[j]? with
    | none => rw [he] at hi; simp at hi
    | some e => simp [hl]
  · simp [hji, hi]

theorem en_upd {P : Program} {mt kt et : TypeId} {b : Nat} {f : α → Value} {l : List (Int × α)} {k : Int} {v : Value} {a : α} {K : Tree}
    (hm : P.underlying mt = some (.map kt et)) (hk : P.underlying kt = some (.int .i64)) (hv : v = f a) (t : Take L (IM b f l) L') (h : Tr ρ0 ρ (IM b f (aset k a l) :: L') K Post) :
    Tr ρ0 ρ L (oprU P (Instr.mapUpdate mt (.map (some b)) (.int .i64 k) v) K) Post := by
  subst hv
  refine Tr.take t (en_oprU (M := IM b f (aset k a l) :: L') (fun w hw => ?_) h)
  obtain ⟨es, clock, he, hs⟩ := hw.im
  have hb := hs.pt
  unfold Instr.mapUpdate
  simp only [Sem.run_bind, Gl.run_underlying hm, Result.andThen_ok, run_getMap hb, run_check hk, run_find hk k he.kv, Sem.run_pure]
  rcases afind_spec f k l 0 with ⟨h1, h2, h3, h4, h5⟩ | ⟨j, a0, h1, h2, h3, h4, h5⟩
  · rw [h1, h3 a]
    simp only [run_setMap hb]
    have e2 : es.toArray.push (⟨.int .i64 k, f a, clock⟩ : MapEntry) = (es ++ [(⟨.int .i64 k, f a, clock⟩ : MapEntry)]).toArray := by simp
    rw [e2]
    refine ⟨_, rfl, Sat.toIm (es := es ++ [(⟨.int .i64 k, f a, clock⟩ : MapEntry)]) (clock := clock + 1) ⟨?_, ?_, ?_, ?_⟩ (Sat.set hs (fun c => setHeap hb c))⟩
    · simp [he.kv]
    · intro e hm
      rcases List.mem_append.mp hm with hm | hm
      · have := he.old e hm; omega
      · simp at hm; subst hm; simp
    · rw [List.map_append, List.nodup_append]
      refine ⟨he.nod, by simp, ?_⟩
      intro x hx y hy
      simp at hx hy
      obtain ⟨e, he1, rfl⟩ := hx
      have := he.old e he1
      subst hy; omega
    · rw [List.map_append, List.nodup_append]
      refine ⟨he.keys, by simp, ?_⟩
      intro x hx y hy e
      simp only [List.map_cons, List.map_nil, List.mem_singleton] at hy
      exact h5 (by rw [← hy, ← e]; exact hx)
  · rw [Nat.zero_add] at h1
    have hl : j < l.length := by
      rcases Nat.lt_or_ge j l.length with h | h
      · exact h
      · rw [List.getElem?_eq_none h] at h3; cases h3
    have hlen : es.length = l.length := by have := congrArg List.length he.kv; simpa using this
    have hke : es[j]?.map (·.key) = some (.int .i64 k) := by
      have := congrArg (fun l => l[j]?) he.kv
      simp only [List.getElem?_map, h3, Option.map_some] at this
      cases he : es[j]? with
      | none => rw [he] at this; simp at this
      | some e => rw [he] at this; simp at this ⊢; exact this.1
    rw [h1, h4 a]
    have hks : ∀ w, (Instr.keyThatStays (((es.toArray)[j]?.map (·.key)).getD (.int .i64 k)) (.int .i64 k)).run P w = .ok (.int .i64 k) w := by
      intro w
      have : ((es.toArray)[j]?.map (·.key)).getD (.int .i64 k) = .int .i64 k := by simp [hke]
      rw [this]
      unfold Instr.keyThatStays
      have : Instr.sameBits 10000 (.int .i64 k) (.int .i64 k) = true := by simp [Instr.sameBits]
      rw [if_pos this]; rfl
    have e2 : es.toArray.modify j (fun e => { e with key := .int .i64 k, val := f a }) = (es.modify j fun e => { e with key := .int .i64 k, val := f a }).toArray := by
      apply Array.ext'; simp
    simp only [Sem.run_bind, hks, Result.andThen_ok, run_setMap hb]
    rw [e2]
    refine ⟨_, rfl, Sat.toIm (es := es.modify j fun e => { e with key := .int .i64 k, val := f a }) (clock := clock) ⟨set_getElem_kv he.kv h3, ?_, ?_, ?_⟩ (Sat.set hs (fun c => setHeap hb c))⟩
    · intro e hm
      obtain ⟨i, hi, rfl⟩ := List.getElem_of_mem hm
      simp only [List.getElem_modify]
      simp only [List.length_modify] at hi
      split
      · exact he.old es[i] (List.getElem_mem hi)
      · exact he.old es[i] (List.getElem_mem hi)
    · have : (es.modify j fun e => { e with key := .int .i64 k, val := f a }).map (·.born) = es.map (·.born) := by
        apply List.ext_getElem?
        intro i
        simp only [List.getElem?_map, List.getElem?_modify]
        split
        · cases es[i]? <;> rfl
        · simp
      rw [this]; exact he.nod
    · have : (l.set j (k, a)).map (·.1) = l.map (·.1) := by
        apply List.ext_getElem?
        intro i
        simp only [List.getElem?_map, List.getElem?_set]
        by_cases hji : j = i
        · subst hji; rw [h3]; simp [hl]
        · simp [hji]
      rw [this]; exact he.keys

theorem en_del {P : Program} {ts : Array TypeId} {mt kt et ty : TypeId} {b : Nat} {f : α → Value} {l : List (Int × α)} {k : Int} {K : RT (.many []) → Tree}
    (ht : ts[0]? = some mt) (hm : P.underlying mt = some (.map kt et)) (hk : P.underlying kt = some (.int .i64)) (t : Take L (IM b f l) L') (h : Tr ρ0 ρ (IM b f (adel k l) :: L') (K ()) Post) :
    Tr ρ0 ρ L (opr P (Builtin.delete_ ts ty #[.map (some b), .int .i64 k]) (.many []) K) Post := by
  refine Tr.take t (en_opr (fun r M => M = IM b f (adel k l) :: L') (fun w hw => ?_) (fun x M hM => by subst hM; exact h))
  obtain ⟨es, clock, he, hs⟩ := hw.im
  have hb := hs.pt
  have a0 : (#[.map (some b), .int .i64 k] : Array Value)[0]? = some (.map (some b)) := rfl
  have a1 : (#[.map (some b), .int .i64 k] : Array Value)[1]? = some (.int .i64 k) := rfl
  unfold Builtin.delete_
  simp only [a0, a1, ht, Sem.run_bind, Gl.run_underlying hm, Result.andThen_ok, run_getMap hb, run_check hk, run_find hk k he.kv, Sem.run_pure]
  have fin : ∀ es', Ents f es' clock (adel k l) → ∃ x w' M, Result.ok (Value.tuple #[]) ({ w with heap := w.heap.setIfInBounds b (.map es'.toArray clock) } : World) = .ok ((RK.many []).val x) w' ∧ M = IM b f (adel k l) :: L' ∧ Sat ρ M w' := fun es' he' =>
    ⟨(), _, _, rfl, rfl, Sat.toIm he' (Sat.set hs (fun c => setHeap hb c))⟩
  rcases afind_spec f k l 0 with ⟨h1, h2, h3, h4, h5⟩ | ⟨j, a0, h1, h2, h3, h4, h5⟩
  · rw [h1]
    simp only [Sem.run_bind, run_setMap hb, Result.andThen_ok]
    exact fin es (by rw [h4]; exact he)
  · rw [Nat.zero_add] at h1
    rw [h1]
    have e2 : es.toArray.eraseIdxIfInBounds j = (es.eraseIdx j).toArray := by simp
    simp only [Sem.run_bind, run_setMap hb, Result.andThen_ok]
    rw [e2]
    refine fin (es.eraseIdx j) ?_
    rw [h5]
    refine ⟨?_, fun e hm => he.old e ((List.eraseIdx_sublist es j).mem hm), ?_, ?_⟩
    · rw [← map_eraseIdx', ← map_eraseIdx', he.kv]
    · rw [← map_eraseIdx']; exact he.nod.sublist (List.eraseIdx_sublist _ _)
    · rw [← map_eraseIdx']; exact he.keys.sublist (List.eraseIdx_sublist _ _)

/-- a map that is ranged over, with its iterator: what is left, and the entry that is told -/
def MI (b r : Nat) (f : α → Value) (l rem : List (Int × α)) (cur : Option (Int × α)) : Asn := fun h => ∃ es clock seen, (Ents f es clock l ∧
    (∃ res, res = es.filter (fun e => !seen.contains e.born) ∧ res.map (fun e => (e.key, e.val)) = rem.map fun x => (.int .i64 x.1, f x.2)) ∧
    (∀ c, cur = some c → ∃ e, e ∈ es ∧ seen.back? = some e.born ∧ e.key = .int .i64 c.1 ∧ e.val = f c.2)) ∧ sep (pt r (.mapIter (some b) clock seen clock)) (mp b es.toArray clock) h

theorem Sat.mi {b r : Nat} {f : α → Value} {l rem : List (Int × α)} {cur : Option (Int × α)} {w : World} (H : Sat ρ (MI b r f l rem cur :: L) w) : ∃ es clock seen, (Ents f es clock l ∧
    (∃ res, res = es.filter (fun e => !seen.contains e.born) ∧ res.map (fun e => (e.key, e.val)) = rem.map fun x => (.int .i64 x.1, f x.2)) ∧
    (∀ c, cur = some c → ∃ e, e ∈ es ∧ seen.back? = some e.born ∧ e.key = .int .i64 c.1 ∧ e.val = f c.2)) ∧ Sat ρ (Gl.pt r (.mapIter (some b) clock seen clock) :: mp b es.toArray clock :: L) w := by
  obtain ⟨⟨h, ⟨h1, h2, hd, rfl, ⟨es, clock, seen, hc, ha⟩, hl⟩, hh⟩, h3⟩ := H
  exact ⟨es, clock, seen, hc, ⟨_, sep_assoc' ⟨h1, h2, hd, rfl, ha, hl⟩, hh⟩, h3⟩
theorem Sat.toMi {b r : Nat} {f : α → Value} {l rem : List (Int × α)} {cur : Option (Int × α)} {w : World} {es : List MapEntry} {clock : Nat} {seen : Array Nat} (hc : Ents f es clock l ∧
    (∃ res, res = es.filter (fun e => !seen.contains e.born) ∧ res.map (fun e => (e.key, e.val)) = rem.map fun x => (.int .i64 x.1, f x.2)) ∧
    (∀ c, cur = some c → ∃ e, e ∈ es ∧ seen.back? = some e.born ∧ e.key = .int .i64 c.1 ∧ e.val = f c.2)) (H : Sat ρ (Gl.pt r (.mapIter (some b) clock seen clock) :: mp b es.toArray clock :: L) w) : Sat ρ (MI b r f l rem cur :: L) w := by
  obtain ⟨⟨h, hl, hh⟩, h3⟩ := H
  obtain ⟨h1, h2, hd, rfl, ha, hl⟩ := sep_assoc hl
  exact ⟨⟨_, ⟨h1, h2, hd, rfl, ⟨es, clock, seen, hc, ha⟩, hl⟩, hh⟩, h3⟩
theorem MI.over {b r : Nat} {f : α → Value} {l rem : List (Int × α)} {cur : Option (Int × α)} {T : Tree} (t : Take L (MI b r f l rem cur) L') (h : Tr ρ0 ρ (IM b f l :: L') T Post) : Tr ρ0 ρ L T Post := fun hle w hw => by
  obtain ⟨es, clock, seen, ⟨he, _⟩, hs⟩ := (hw.perm t.perm).mi
  exact h hle w (Sat.toIm he hs.drop)

theorem en_rng {P : Program} {mt kt et : TypeId} {b : Nat} {f : α → Value} {l : List (Int × α)} {K : RT (.one (.l .ptr)) → Tree}
    (hm : P.underlying mt = some (.map kt et)) (t : Take L (IM b f l) L') (h : ∀ r, Tr ρ0 ρ (MI b r f l l none :: L') (K (some ⟨r, 0, none⟩)) Post) :
    Tr ρ0 ρ L (opr P (Instr.range mt (.map (some b))) (.one (.l .ptr)) K) Post := by
  refine Tr.take t (en_opr (fun x M => ∃ r, x = some ⟨r, 0, none⟩ ∧ M = MI b r f l l none :: L') (fun w hw => ?_) (by rintro x M ⟨r, rfl, rfl⟩; exact h r))
  obtain ⟨es, clock, he, hs⟩ := hw.im
  have hb := hs.pt
  refine ⟨some ⟨w.heap.size, 0, none⟩, w.alloc (.mapIter (some b) clock #[] clock), _, ?_, ⟨w.heap.size, rfl, rfl⟩, ?_⟩
  · unfold Instr.range
    simp only [Sem.run_bind, Gl.run_underlying hm, Result.andThen_ok, run_getMap hb, Sem.run_pure, run_newObj]
    rfl
  · exact Sat.toMi ⟨he, ⟨es, by rw [List.filter_eq_self.mpr]; intro e _; simp, he.kv⟩, nofun⟩ (Sat.new (o := .mapIter (some b) clock #[] clock) hs)

theorem filter_one {es : List MapEntry} {seen : Array Nat} {i : Nat} {e : MapEntry} (hn : (es.map (·.born)).Nodup) (h : (es.filter (fun e => !seen.contains e.born))[i]? = some e) :
    es.filter (fun e' => !(seen.push e.born).contains e'.born) = (es.filter (fun e => !seen.contains e.born)).eraseIdx i := by
  have h1 : es.filter (fun e' => !(seen.push e.born).contains e'.born) = (es.filter (fun e => !seen.contains e.born)).filter (fun e' => !(e'.born == e.born)) := by
    rw [List.filter_filter]
    apply List.filter_congr
    intro x _
    simp only [Array.contains_push]
    cases (x.born == e.born) <;> simp
  rw [h1]
  have hn2 : ((es.filter (fun e => !seen.contains e.born)).map (·.born)).Nodup := hn.sublist (List.filter_sublist.map _)
  revert h hn2
  generalize es.filter (fun e => !seen.contains e.born) = l
  clear h1 hn
  induction l generalizing i with
  | nil => intro h; simp at h
  | cons x l ih =>
    intro h hn2
    simp only [List.map_cons, List.nodup_cons] at hn2
    cases i with
    | zero =>
      simp at h; subst h
      rw [List.filter_cons_of_neg (by simp)]
      simp only [List.eraseIdx_cons_zero]
      rw [List.filter_eq_self]
      intro y hy
      have : y.born ≠ x.born := fun hh => hn2.1 (by rw [← hh]; exact List.mem_map_of_mem hy)
      simp [this]
    | succ i =>
      simp at h
      have hx : x.born ≠ e.born := fun hh => hn2.1 (by rw [hh]; exact List.mem_map_of_mem (List.mem_of_getElem? h))
      rw [List.filter_cons_of_pos (by simp [hx]), List.eraseIdx_cons_succ, ih h hn2.2]

theorem choose_lt {P : Program} {w : World} {n : Nat} (hn : 0 < n) : ∃ i w', (choose (.mapNext n)).run P w = .ok i w' ∧ i < n ∧ w'.heap = w.heap ∧ Sm w w' := by
  rw [run_choose]
  split
  · exact ⟨0, w, rfl, hn, rfl, ⟨rfl, rfl, rfl⟩⟩
  · exact ⟨_, _, rfl, Nat.mod_lt _ hn, rfl, ⟨rfl, rfl, rfl⟩⟩

theorem en_nxt {P : Program} {ty : TypeId} {b r : Nat} {f : α → Value} {l rem : List (Int × α)} {cur : Option (Int × α)} {kv : LK} {g : α → LT kv} {k0 : Tree} {k1 : KT (.l (.int .i64)) → KT (.l kv) → Tree} (hg : ∀ a, f a = kv.val (g a)) (t : Take L (MI b r f l rem cur) L')
    (h0 : rem = [] → Tr ρ0 ρ (MI b r f l [] none :: L') k0 Post) (h1 : ∀ k a r1 r2, rem = r1 ++ (k, a) :: r2 → Tr ρ0 ρ (MI b r f l (r1 ++ r2) (some (k, a)) :: L') (k1 k (g a)) Post) :
    Tr ρ0 ρ L (nxt P (Instr.next (.pointer (some ⟨r, 0, none⟩)) false ty) (.l (.int .i64)) (.l kv) k0 k1) Post := fun hle w hw => by
  obtain ⟨es, clock, seen, ⟨he, ⟨res, hres, hkv⟩, hcur⟩, hs⟩ := (hw.perm t.perm).mi
  have hr := hs.pt
  have hb := (hs.perm (List.Perm.swap _ _ _)).pt
  have c1 : ¬ (((!seen.isEmpty && !es.toArray.isEmpty) && es.toArray.all fun x => decide (x.born ≥ clock)) = true) := by
    intro h
    simp only [Bool.and_eq_true] at h
    obtain ⟨⟨_, h2⟩, h3⟩ := h
    cases es with
    | nil => simp at h2
    | cons e es =>
      have := he.old e List.mem_cons_self
      simp at h3
      omega
  have hl : (es.toArray.filter fun e => !seen.contains e.born) = res.toArray := by rw [hres]; simp
  have hold : res.toArray.filter (fun e => decide (e.born < clock)) = res.toArray := by
    rw [List.filter_toArray]
    congr 1
    rw [List.filter_eq_self]
    intro e hm
    rw [hres] at hm
    have := he.old e (List.mem_filter.mp hm).1
    simp [this]
  have hnew : res.toArray.filter (fun e => decide (e.born ≥ clock)) = #[] := by
    rw [List.filter_toArray]
    congr 1
    rw [List.filter_eq_nil_iff]
    intro e hm
    rw [hres] at hm
    have := he.old e (List.mem_filter.mp hm).1
    simp; omega
  have hrun : (Instr.next (.pointer (some ⟨r, 0, none⟩)) false ty).run P w = (do
      match ((if res.toArray.isEmpty then #[none] else #[]) ++ (res.toArray ++ #[]).map some)[← choose (.mapNext ((if res.toArray.isEmpty then #[none] else #[]) ++ (res.toArray ++ #[]).map some).size)]? with
      | some (some e) =>
        setObj r (.mapIter (some b) clock (seen.push e.born) clock)
        pure (.tuple #[.bool true, e.key, e.val])
      | some none => pure (.tuple #[.bool false])
      | none => stuck "Next: no such candidate" : Sem Value).run P w := by
    unfold Instr.next
    simp only [Sem.run_bind, run_getIt hr, Result.andThen_ok, run_getMap hb, if_neg c1, hl, hold, hnew]
    rfl
  have hlen : rem.length = res.length := by have := congrArg List.length hkv; simpa using this.symm
  cases hres0 : res with
  | nil =>
    rw [hres0] at hlen
    have hrem : rem = [] := by simpa using hlen
    refine .inl ⟨w, ?_, h0 hrem hle w (Sat.toMi ⟨he, ⟨res, hres, by rw [hres0]; rfl⟩, nofun⟩ hs)⟩
    rw [hrun, hres0]
    simp only [List.isEmpty_toArray, List.isEmpty_nil, if_true, Array.append_empty, Array.map_empty, List.map_toArray, List.map_nil, List.size_toArray, List.length_nil, Sem.run_bind, run_choose, Question.forced]
    rfl
  | cons e0 res0 =>
    have hpos : 0 < res.length := by rw [hres0]; simp
    have hne : res.toArray.isEmpty = false := by rw [hres0]; rfl
    simp only [hne, Bool.false_eq_true, if_false, Array.append_empty, Array.empty_append] at hrun
    obtain ⟨i, w', hch, hi, hh, hsm⟩ := choose_lt (P := P) (w := w) (n := (res.toArray.map some).size) (by simpa using hpos)
    have hi' : i < res.length := by simpa using hi
    have hri : i < rem.length := by omega
    obtain ⟨e, hei⟩ : ∃ e, res[i]? = some e := ⟨res[i], by simp [hi']⟩
    have hsp : rem = rem.take i ++ (rem[i].1, rem[i].2) :: rem.drop (i + 1) := by
      rw [← List.drop_eq_getElem_cons hri, List.take_append_drop]
    have hki : e.key = .int .i64 rem[i].1 ∧ e.val = f rem[i].2 := by
      have := congrArg (fun l => l[i]?) hkv
      simp only [List.getElem?_map, hei, Option.map_some] at this
      rw [List.getElem?_eq_getElem hri] at this
      simpa using this
    have hmem : e ∈ es := by
      have : e ∈ res := List.mem_of_getElem? hei
      rw [hres] at this
      exact (List.mem_filter.mp this).1
    refine .inr ⟨rem[i].1, g rem[i].2, { w' with heap := w'.heap.setIfInBounds r (.mapIter (some b) clock (seen.push e.born) clock) }, ?_, h1 _ _ _ _ hsp hle _ ?_⟩
    · rw [hrun]
      have hr' : w'.heap[r]? = some (.mapIter (some b) clock seen clock) := by rw [hh]; exact hr
      have hget : (res.toArray.map some)[i]? = some (some e) := by simp [hei]
      simp only [Sem.run_bind, hch, Result.andThen_ok, hget, run_setIt hr', Sem.run_pure]
      rw [hki.1, hki.2, hg]
      rfl
    · have hs' : Sat ρ (Gl.pt r (.mapIter (some b) clock seen clock) :: mp b es.toArray clock :: L') w' := Sat.heap hh hsm hs
      have hr' : w'.heap[r]? = some (.mapIter (some b) clock seen clock) := by rw [hh]; exact hr
      refine Sat.toMi ⟨he, ⟨res.eraseIdx i, ?_, ?_⟩, ?_⟩ (Sat.set hs' (fun c => setHeap hr' c))
      · rw [hres] at hei ⊢
        exact (filter_one he.nod hei).symm
      · rw [← map_eraseIdx', hkv, map_eraseIdx', List.eraseIdx_eq_take_drop_succ]
      · intro c hc
        injection hc with hc
        subst hc
        exact ⟨e, hmem, by simp, hki.1, hki.2⟩

theorem find_one {e : MapEntry} : ∀ {es : List MapEntry}, (es.map (·.born)).Nodup → e ∈ es → es.find? (fun x => x.born == e.born) = some e
  | [], _, h => by cases h
  | x :: es, hn, hm => by
    simp only [List.map_cons, List.nodup_cons] at hn
    by_cases hx : x.born = e.born
    · rcases List.mem_cons.mp hm with h | h
      · subst h; simp
      · exact absurd (by rw [hx]; exact List.mem_map_of_mem h) hn.1
    · rw [List.find?_cons_of_neg (by simpa using hx)]
      rcases List.mem_cons.mp hm with h | h
      · subst h; exact absurd rfl hx
      · exact find_one hn.2 h

theorem en_ent {P : Program} {b r : Nat} {f : α → Value} {l rem : List (Int × α)} {k : Int} {a : α} {kv : LK} {g : α → LT kv} {K : RT (.many [.l (.int .i64), .l kv]) → Tree} (hg : ∀ a, f a = kv.val (g a)) (t : Take L (MI b r f l rem (some (k, a))) L')
    (h : Tr ρ0 ρ L (K (k, g a, ())) Post) : Tr ρ0 ρ L (opr P (Instr.entry (.pointer (some ⟨r, 0, none⟩))) (.many [.l (.int .i64), .l kv]) K) Post := by
  refine en_opr (fun x M => x = (k, g a, ()) ∧ M = L) (fun w hw => ?_) (by rintro x M ⟨rfl, rfl⟩; exact h)
  obtain ⟨es, clock, seen, ⟨he, _, hcur⟩, hs⟩ := (hw.perm t.perm).mi
  have hr := hs.pt
  have hb := (hs.perm (List.Perm.swap _ _ _)).pt
  obtain ⟨e, hm, hback, hk, hv⟩ := hcur _ rfl
  refine ⟨_, w, L, ?_, ⟨rfl, rfl⟩, hw⟩
  have hfind : es.toArray.find? (fun x => x.born == e.born) = some e := by
    rw [List.find?_toArray]
    exact find_one he.nod hm
  unfold Instr.entry
  simp only [Sem.run_bind, run_getIt hr, Result.andThen_ok, hback, run_getMap hb, bne_self_eq_false, Bool.false_eq_true, if_false, hfind, Sem.run_pure]
  rw [hk, hv, hg]
  rfl

end
end Go.Gl
