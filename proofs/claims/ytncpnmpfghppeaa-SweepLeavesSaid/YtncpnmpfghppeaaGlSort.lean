/- Sorting ints; a map's keys, sorted. -/
import Derived.Test.YtncpnmpfghppeaaGlSpc
import Derived.Test.YtncpnmpfghppeaaGlLay
set_option linter.unusedSimpArgs false
set_option linter.unusedVariables false
namespace Go.Gl
open Go
variable {ρ0 ρ : FR} {L L' : List Asn} {Post : Value → List Asn → Prop}
/-- whatever is made beside -/
theorem Sat.later {L : List Asn} {w w' : World} (h : ∀ (c : Nat) (o : Obj), w.heap[c]? = some o → w'.heap[c]? = some o) (hs : Sm w w') (H : Sat ρ L w) : Sat ρ L w' := by
  obtain ⟨⟨h0, hl, hh⟩, h3⟩ := H
  exact ⟨⟨h0, hl, fun b o hb => ⟨h b o (hh b o hb).1, (hh b o hb).2⟩⟩, ⟨fun b o hb => h b o (h3 b o hb), h3.same.trans hs⟩⟩
theorem Sat.below {L : List Asn} {w w' : World} (hb : RowKit.Below w.heap.size w w') (H : Sat ρ L w) : Sat ρ L w' :=
  Sat.later (fun c o h => by
    have : c < w.heap.size := by
      rcases Nat.lt_or_ge c w.heap.size with g | g
      · exact g
      · rw [Array.getElem?_eq_none g] at h; cases h
    rw [hb.block c this]; exact h) ⟨hb.os, hb.tape, hb.output⟩ H
/-- a new block beside all that was -/
theorem Sat.fresh {L : List Asn} {w w' : World} {g : Nat} {o : Obj} (hb : RowKit.Below w.heap.size w w') (hg : w.heap.size ≤ g) (ho : w'.heap[g]? = some o) (H : Sat ρ L w) : Sat ρ (Gl.pt g o :: L) w' := by
  have lt : ∀ b u, w.heap[b]? = some u → b < w.heap.size := fun b u hb => by
    rcases Nat.lt_or_ge b w.heap.size with h | h
    · exact h
    · rw [Array.getElem?_eq_none h] at hb; cases hb
  obtain ⟨⟨h0, hl, hh⟩, h3⟩ := H
  refine ⟨⟨fun c => ((fun c => if c = g then some o else none) c).or (h0 c), ⟨_, h0, fun c => ?_, rfl, rfl, hl⟩, fun c u hu => ?_⟩, ⟨fun c u hu => ?_, h3.same.trans ⟨hb.os, hb.tape, hb.output⟩⟩⟩
  · by_cases hc : c = g
    · subst hc; right
      cases hx : h0 c with
      | none => rfl
      | some u => have := lt _ _ (hh _ _ hx).1; omega
    · left; simp [hc]
  · by_cases hc : c = g
    · subst hc; simp at hu; subst hu
      refine ⟨ho, ?_⟩
      cases hx : ρ c with
      | none => rfl
      | some u => have := lt _ _ (h3 _ _ hx); omega
    · simp [hc] at hu
      have := hh c u hu
      exact ⟨by rw [hb.block c (lt _ _ this.1)]; exact this.1, this.2⟩
  · have := h3 c u hu
    rw [hb.block c (lt _ _ this)]; exact this
end Go.Gl
namespace Go.Proofs.Ytncpnmpfghppeaa
open Go Go.Gl
variable {ρ : FR}

def Sp.sort (xs : List Int) : List Int := xs.mergeSort fun x y => decide (x ≤ y)
theorem Sp.sort_len {xs : List Int} : (Sp.sort xs).length = xs.length := by simp [Sp.sort]
theorem Sp.sort_perm {xs ys : List Int} (h : xs.Perm ys) : Sp.sort xs = Sp.sort ys := mergeSort_of_perm_i h
theorem Sp.sort_id {xs : List Int} (h : xs.Pairwise (· ≤ ·)) : Sp.sort xs = xs := List.mergeSort_of_pairwise (by simpa using h)

theorem sort_ints (s : Slc) (xs : List Int) (hl : xs.length < 2 ^ 40) : Gl.Spec ρ Try.prog 60 [.slice s.a s.n s.c] [SLc s 1 (xs.map i64)] (.many [])
    fun _ M => M = [SLc s 1 ((Sp.sort xs).map i64)] := by
  intro R w hw
  rcases hw.sl with ⟨g1, g2, g3, g4, g5⟩ | ⟨b, off, pre, rest, g1, g2, g3, g4, g5, g6⟩
  · have hx : xs = [] := by simpa using g4
    subst hx
    rw [g1, g2, g3]
    refine (AnyM.slices_Sort_int_none Try.glSort none 0 w).mono ?_
    rintro e w' ⟨rfl, rfl⟩
    exact ⟨(), _, rfl, rfl, by rw [show Sp.sort [] = [] from by simp [Sp.sort]]; exact hw⟩
  · have hn : s.n = xs.length := by simpa using g3.symm
    obtain ⟨t, hb⟩ := g6.cl
    have hlt : b < w.heap.size := (Array.getElem?_eq_some_iff.1 hb).1
    have hget : ∀ j, j < xs.length → (pre ++ (xs.map i64 ++ rest))[off + j]? = (xs.map i64)[j]? := fun j hj => by rw [← g2]; exact mid_get (by simpa using hj)
    have hH : Sort.Holds (Value.int .i64) w b off xs.toArray := by
      intro j hj
      simp only [List.size_toArray] at hj
      refine ⟨?_, by simp [World.frozen?, hb]⟩
      have e : (xs.toArray)[j]! = xs[j] := by simp [hj]
      rw [e]
      refine cell_of hb ?_
      rw [List.getElem?_toArray, hget j hj]; simp [hj]
    rw [g1, hn]
    refine (AnyM.slices_Sort_int Try.glSort b off s.c xs w hH hlt (by omega)).mono ?_
    rintro e w' ⟨rfl, n, os, rfl⟩
    refine ⟨(), _, rfl, rfl, ?_⟩
    have hcells : (Sort.putCells (Value.int .i64) off (Sp.sort xs).toArray (pre ++ (xs.map i64 ++ rest)).toArray) = (pre ++ ((Sp.sort xs).map i64 ++ rest)).toArray := by
      apply Array.ext_getElem?
      intro k
      simp only [Sort.putCells, Array.getElem?_mapIdx, List.getElem?_toArray, List.size_toArray]
      rcases Nat.lt_or_ge k off with c | c
      · rw [List.getElem?_append_left (by omega), List.getElem?_append_left (by omega)]
        have : ¬ (off ≤ k ∧ k < off + (Sp.sort xs).length) := by omega
        simp [this]
      · obtain ⟨j, rfl⟩ : ∃ j, k = off + j := ⟨k - off, by omega⟩
        rcases Nat.lt_or_ge j xs.length with c2 | c2
        · have h1 := hget j c2
          have h2 : (pre ++ ((Sp.sort xs).map i64 ++ rest))[off + j]? = ((Sp.sort xs).map i64)[j]? := by rw [← g2]; exact mid_get (by simpa [Sp.sort_len] using c2)
          rw [h1, h2]
          have h3 : j < (Sp.sort xs).length := by rw [Sp.sort_len]; exact c2
          have : off ≤ off + j ∧ off + j < off + (Sp.sort xs).length := by omega
          simp [c2, this, h3]
        · have : ¬ (off ≤ off + j ∧ off + j < off + (Sp.sort xs).length) := by rw [Sp.sort_len]; omega
          have h1 : (pre ++ (xs.map i64 ++ rest))[off + j]? = rest[j - xs.length]? := by
            rw [← List.append_assoc, List.getElem?_append_right (by rw [List.length_append, List.length_map]; omega)]
            congr 1; rw [List.length_append, List.length_map]; omega
          have h2 : (pre ++ ((Sp.sort xs).map i64 ++ rest))[off + j]? = rest[j - xs.length]? := by
            rw [← List.append_assoc, List.getElem?_append_right (by rw [List.length_append, List.length_map, Sp.sort_len]; omega)]
            congr 1; rw [List.length_append, List.length_map, Sp.sort_len]; omega
          rw [h1, h2]
          have hj : ¬ j < xs.length := by omega
          simp [hj, Sp.sort_len]
    have hset : Sat ρ (blk b (pre ++ ((Sp.sort xs).map i64 ++ rest)) :: R) (Sort.putRow (Value.int .i64) (Sort.ahead w n) b off (Sp.sort xs).toArray) := by
      obtain ⟨⟨h, ⟨h1, h2, hd, rfl, ⟨t', ha⟩, hl⟩, hh⟩, h3⟩ := g6
      have ht : t' = t := by
        have := (hh b _ (by rw [ha]; simp; rfl)).1
        rw [hb] at this; injection this with h; injection h with _ h; exact h.symm
      subst ht
      refine Sat.imp (fun _ h => ⟨t', h⟩) (Sat.set (o := .cells (pre ++ (xs.map i64 ++ rest)).toArray t' (0, 0)) (w := w) ⟨⟨_, ⟨h1, h2, hd, rfl, ha, hl⟩, hh⟩, h3⟩ fun c => ?_)
      show ((Sort.ahead w n).heap.modify b (Sort.onCells _))[c]? = _
      rw [Array.getElem?_modify]
      by_cases hc : b = c
      · subst hc
        simp only [if_true, Sort.ahead, hb, Option.map_some, Sort.onCells, hcells]
      · simp only [hc, if_false, if_neg (Ne.symm hc), Sort.ahead]
    have hfin : Sat ρ (blk b (pre ++ ((Sp.sort xs).map i64 ++ rest)) :: R) (Sort.grow (Sort.putRow (Value.int .i64) (Sort.ahead w n) b off (Sp.sort xs).toArray) os) := by
      refine Sat.later (w := Sort.putRow (Value.int .i64) (Sort.ahead w n) b off (Sp.sort xs).toArray) (fun c o h => ?_) ⟨rfl, rfl, rfl⟩ hset
      show ((Sort.putRow (Value.int .i64) (Sort.ahead w n) b off (Sp.sort xs).toArray).heap ++ os)[c]? = some o
      rw [Array.getElem?_append_left (Array.getElem?_eq_some_iff.1 h).1]
      exact h
    exact Sat.imp (fun h hh => .inr ⟨b, off, pre, rest, g1, g2, by rw [List.length_map, Sp.sort_len]; simpa using g3, g4, g5, hh⟩) hfin

/-! ### a map's keys -/
/-- slices.Sort's two contracts at this program -/
theorem sortsIn (m : Nat) : AnyZI.SortsIn Try.prog Try.glSorted_ren Fence.wide m :=
  ⟨fun blk off cap ss W hH hblk hsz => callsIn_wide.2 (AnyM.slices_Sort_int Try.glSort blk off cap ss W hH hblk hsz),
   fun p cap W => callsIn_wide.2 (AnyM.slices_Sort_int_none Try.glSort p cap W)⟩

abbrev keysFn : FuncId := 114

theorem maps_keys (b : Nat) : Gl.Spec ρ Try.prog 110 [.map (some b)] [] (.one (.l .any))
    fun r M => ∃ B, r = .func (.func keysFn) #[] #[.pointer (some ⟨B, 0, none⟩)] ∧ M = [blk B [.map (some b)]] := by
  intro R w hw
  refine (callsIn_wide.1 (AnyZI.keys_in Try.glKeys110 Fence.wide 5 trivial rfl (some b) w)).mono ?_
  rintro e w' ⟨rfl, rfl⟩
  refine ⟨.func (.func keysFn) #[] #[.pointer (some ⟨w.heap.size, 0, none⟩)], _, rfl, ⟨w.heap.size, rfl, rfl⟩, ?_⟩
  exact Sat.newCl (cs := [.map (some b)]) hw

theorem maps_sorted {α : Type} (b B : Nat) (f : α → Value) (l : List (Int × α)) (hk : ∀ x ∈ l, 0 ≤ x.1 ∧ x.1 < 2 ^ 40) (hl : l.length ≤ 2 ^ 20) : Gl.Spec ρ Try.prog 109 [.func (.func keysFn) #[] #[.pointer (some ⟨B, 0, none⟩)]] [blk B [.map (some b)], IM b f l] (.one (.l .slice))
    fun r M => r.n = l.length ∧ M = [SLc r 1 ((Sp.sort (l.map (·.1))).map i64), IM b f l] := by
  intro R w hw
  obtain ⟨tB, hB⟩ := hw.cl
  have hBlt : B < w.heap.size := (Array.getElem?_eq_some_iff.1 hB).1
  have hw2 : Sat ρ (IM b f l :: R) w := hw.drop
  obtain ⟨es, clock, he, hs⟩ := hw2.im
  have hb := hs.pt
  let Rr : Value → Option (DataW Unit × List MemPlace) := fun _ => some (.nil, [])
  have hlen : es.length = l.length := by have := congrArg List.length he.kv; simpa using this
  have hkt : Try.prog.underlying 3 = some (.int .i64) := by kernel_rfl
  have hrd : ∀ x ∈ es, ∃ y ∈ l, x.key = .int .i64 y.1 := fun x hx => by
    have : (x.key, x.val) ∈ es.map fun e => (e.key, e.val) := List.mem_map_of_mem (f := fun e : MapEntry => (e.key, e.val)) hx
    rw [he.kv, List.mem_map] at this
    obtain ⟨y, hy, e⟩ := this
    injection e with e1 e2
    exact ⟨y, hy, e1.symm⟩
  have hwf : ∀ y ∈ l, (Lit.int .i64 y.1).wf = true := fun y hy => by
    have := hk y hy
    simp [Lit.wf, IntKind.min, IntKind.max, IntKind.signed, IntKind.bits]
    omega
  have hrdx : ∀ x ∈ es, ∀ y : Int × α, y ∈ l → x.key = .int .i64 y.1 → WideElems.rd Try.prog 3 Rr x = some (.int .i64 y.1, .nil) := fun x hx y hy hxy => by
    unfold WideElems.rd
    rw [hxy, Maps.keyOf_int_mk hkt (hwf y hy)]; rfl
  have hown : w.ownsMap Try.prog 3 Rr b es.length (.map ((es.map (WideElems.rg Try.prog 3 Rr)).foldr DataW.insert [])) := by
    refine ⟨es.toArray, clock, hb, ⟨by show es.length ≤ 2 ^ 63 - 1; omega, ⟨by simpa using he.old, by simpa using he.nod, ?_⟩, ?_⟩, by simp, by simp⟩
    · have e1 : es.map (·.key) = l.map fun x => Value.int .i64 x.1 := by
        have := congrArg (List.map Prod.fst) he.kv
        simpa [Function.comp_def] using this
      have e2 : l.map (fun x => Value.int .i64 x.1) = (l.map (·.1)).map (Value.int .i64) := by simp
      simp only [List.toList_toArray]
      rw [e1, e2]
      exact List.Pairwise.map (S := (· ≠ ·)) _ (fun a b hne h => hne (by injection h)) he.keys
    · intro x hx
      simp only [List.toList_toArray] at hx
      obtain ⟨y, hy, hxy⟩ := hrd x hx
      exact ⟨_, hrdx x hx y hy hxy⟩
  have hperm : (intKeys (.map ((es.map (WideElems.rg Try.prog 3 Rr)).foldr DataW.insert []) : DataW Unit)).Perm (l.map (·.1)) := by
    have h1 : (intKeys (.map ((es.map (WideElems.rg Try.prog 3 Rr)).foldr DataW.insert []) : DataW Unit)).Perm ((es.map (WideElems.rg Try.prog 3 Rr)).map fun p => Go.intOf p.1) := (WideShapes.sorted_perm _).map _
    have h2 : (es.map (WideElems.rg Try.prog 3 Rr)).map (fun p => Go.intOf p.1) = l.map (·.1) := by
      have h3 : (es.map (WideElems.rg Try.prog 3 Rr)).map (fun p => Go.intOf p.1) = (es.map fun e => (e.key, e.val)).map (fun p => RowKit.intOf p.1) := by
        simp only [List.map_map]
        apply List.map_congr_left
        intro x hx
        obtain ⟨y, hy, hxy⟩ := hrd x hx
        simp only [Function.comp, WideElems.rg, hrdx x hx y hy hxy, hxy]
        rfl
      rw [h3, he.kv]
      simp [RowKit.intOf]
    rw [h2] at h1; exact h1
  have hsize : Maps.size (.map ((es.map (WideElems.rg Try.prog 3 Rr)).foldr DataW.insert []) : DataW Unit) = l.length := by
    have := hperm.length_eq
    simp only [intKeys, List.length_map] at this
    exact this
  have hseq : SeqGives Fence.wide 2 Try.prog keysFn #[.pointer (some ⟨B, 0, none⟩)] encZ (fun ss => ss.Perm (intKeys (.map ((es.map (WideElems.rg Try.prog 3 Rr)).foldr DataW.insert []) : DataW Unit))) (Maps.size (.map ((es.map (WideElems.rg Try.prog 3 Rr)).foldr DataW.insert []) : DataW Unit)) w :=
    AnyZI.keys_gives (ρ := Try.glKeys110_ren) { Try.glKeys110 with } Fence.wide _ trivial rfl (by omega) B b es.length _ w hBlt (cell_of hB rfl) hown
  have cS := AnyZI.sorted_in Try.glSorted Fence.wide 5 trivial trivial trivial trivial rfl (by omega) (sortsIn _) (enters_of Try.func60 (by kernel_rfl) rfl) keysFn #[.pointer (some ⟨B, 0, none⟩)] trivial (enters_of Try.func114 (by kernel_rfl) rfl) _ _ (by rw [hsize]; show l.length ≤ 2 ^ 63 - 1; omega) (by rw [hsize]; omega) w hseq
  refine (callsIn_wide.1 cS).mono ?_
  rintro e w' ⟨v, ss, rfl, hS, hrow, hnil, hbl⟩
  have hp : ss.Perm (l.map (·.1)) := hS.trans hperm
  have hsort : ss.mergeSort (fun x y => decide (x ≤ y)) = Sp.sort (l.map (·.1)) := Sp.sort_perm hp
  have hssl : ss.length = l.length := by have := hp.length_eq; simpa using this
  rw [hsort] at hrow
  rcases hrow.2 with ⟨rfl, hz⟩ | ⟨g, cap, cur, rfl, hg, hgb, r1, r2, r3, r4⟩
  · refine ⟨(⟨none, 0, 0⟩ : Slc), _, rfl, ⟨by rw [← hssl, hz], rfl⟩, ?_⟩
    have hl0 : l = [] := List.eq_nil_of_length_eq_zero (by omega)
    subst hl0
    have := Sat.below hbl hw2
    obtain ⟨⟨h0, hl', hh⟩, h3⟩ := this
    have e0 : Sp.sort (([] : List (Int × α)).map (·.1)) = [] := by simp [Sp.sort]
    rw [e0]
    exact ⟨⟨h0, ⟨fun _ => none, h0, fun _ => .inl rfl, by funext b; simp, SLc.nil 1 _ (fun _ => rfl), hl'⟩, hh⟩, h3⟩
  · replace hgb : w'.heap[g]? = some (.cells cur 3 (0, 0)) := hgb
    refine ⟨(⟨some ⟨g, 0, none⟩, ss.length, cap⟩ : Slc), _, rfl, ⟨hssl, rfl⟩, ?_⟩
    refine Sat.imp (A := Gl.pt g (.cells cur 3 (0, 0))) (fun h hh => .inr ⟨g, 0, [], cur.toList.drop ss.length, rfl, rfl, ?_, ?_, r1, ?_⟩) (Sat.fresh hbl hg hgb hw2)
    · simp [Sp.sort_len, hssl]
    · simp [r3]
    · rw [Nat.mul_one] at r4
      refine ⟨3, ?_⟩
      have : ([] : List Value) ++ ((Sp.sort (l.map (·.1))).map i64 ++ cur.toList.drop ss.length) = cur.toList := by
        rw [List.nil_append, ← r4, List.take_append_drop]
      rw [this]
      simpa using hh
end Go.Proofs.Ytncpnmpfghppeaa
