/- Inputs opened: fields of structs, slices in them. -/
import Derived.Test.YtpefngbfgjfcgaaGreatGsRow
import Derived.Test.YtpefngbfgjfcgaaGreatGsClass
set_option linter.unusedSimpArgs false
set_option linter.unusedVariables false
namespace Go.Gl
open Go
section
variable {H : Type} {enc : TypeId × Value → H} {P : Program} {W : World} {base : Nat} {sp : Nat → Bool} {held : Bool}
theorem open_fld {fs : Array Field} {xs : List (DataW H × List MemPlace)} {n : Nat} {cs : List Value} (hlen : xs.length = fs.size) (hf : ∀ (i : Nat) (f : Field), fs[i]? = some f → DataW.trod enc P W base sp held n f.type ((cs.drop f.offset).take (P.cellsOf f.type)) = xs[i]?)
  {i o : Nat} {t : TypeId} (h : (fs[i]?).map (fun f => (f.type, f.offset)) = some (t, o)) : ∃ y, DataW.trod enc P W base sp held n t ((cs.drop o).take (P.cellsOf t)) = some y := by
 cases hfi : fs[i]? with
 | none => rw [hfi] at h; cases h
 | some f =>
  rw [hfi] at h
  injection h with h
  injection h with h1 h2
  have hi : i < fs.size := (Array.getElem?_eq_some_iff.1 hfi).1
  have := hf i f hfi
  rw [List.getElem?_eq_getElem (by omega)] at this
  exact ⟨_, by rw [← h1, ← h2]; exact this⟩
theorem cell_at {cs : List Value} {o : Nat} {v : Value} (h : (cs.drop o).take 1 = [v]) : cs[o]? = some v := by
 have : ((cs.drop o).take 1)[0]? = some v := by rw [h]; rfl
 rw [List.getElem?_take, if_pos (by omega), List.getElem?_drop] at this
 simpa using this
theorem cell_sub {cs hc : List Value} {o n j : Nat} (h : (cs.drop o).take n = hc) (hj : j < n) : cs[o + j]? = hc[j]? := by
 rw [← h, List.getElem?_take, if_pos hj, List.getElem?_drop]
theorem open_ifld {fs : Array Field} {xs : List (DataW H × List MemPlace)} {n : Nat} {cs : List Value} (hlen : xs.length = fs.size) (hf : ∀ (i : Nat) (f : Field), fs[i]? = some f → DataW.trod enc P W base sp held n f.type ((cs.drop f.offset).take (P.cellsOf f.type)) = xs[i]?)
  {i o : Nat} {t : TypeId} {k : IntKind} (ht : P.underlying t = some (.int k)) (hc : P.cellsOf t = 1) (h : (fs[i]?).map (fun f => (f.type, f.offset)) = some (t, o)) : ∃ m : Int, cs[o]? = some (.int k m) := by
 obtain ⟨y, hy⟩ := open_fld hlen hf h
 rw [hc] at hy
 obtain ⟨m, hm, _⟩ := DataW.trod_int ht hy
 exact ⟨m, cell_at hm⟩
theorem open_ifldw {fs : Array Field} {xs : List (DataW H × List MemPlace)} {n : Nat} {cs : List Value} (hlen : xs.length = fs.size) (hf : ∀ (i : Nat) (f : Field), fs[i]? = some f → DataW.trod enc P W base sp held n f.type ((cs.drop f.offset).take (P.cellsOf f.type)) = xs[i]?)
  {i o : Nat} {t : TypeId} {k : IntKind} (ht : P.underlying t = some (.int k)) (hc : P.cellsOf t = 1) (h : (fs[i]?).map (fun f => (f.type, f.offset)) = some (t, o)) : ∃ m : Int, cs[o]? = some (.int k m) ∧ (Lit.int k m).wf = true := by
 obtain ⟨y, hy⟩ := open_fld hlen hf h
 rw [hc] at hy
 obtain ⟨m, hm, _, hw⟩ := DataW.trod_int ht hy
 exact ⟨m, cell_at hm, hw⟩
theorem i64_wf {a : Int} (h : (Lit.int .i64 a).wf = true) : -9223372036854775808 ≤ a ∧ a < 9223372036854775808 := by
 simp [Lit.wf, IntKind.min, IntKind.max, IntKind.signed, IntKind.bits] at h
 omega
theorem ros_ints {k : IntKind} {t e : TypeId} {fuel : Nat} {cs : List Value} {x : DataW H × List MemPlace} (ht : P.underlying t = some (.slice e)) (he : P.underlying e = some (.int k)) (hc : P.cellsOf e = 1)
  (hf : DataW.trod enc P W base sp held fuel t cs = some x) : ∃ (s : Slc) (l : List Int), cs = [.slice s.a s.n s.c] ∧ RoS (FR.all W) s 1 (l.map fun x => .int k x) := by
 rcases Go.ChangeShapes.open_ints ht he hc hf with ⟨hcs, hx⟩ | ⟨a, len, cap, zs, rfl, _, hl, hm, hz, hx, hcell, hwz⟩
 ·exact ⟨⟨none, 0, 0⟩, [], hcs, ⟨rfl, .inl rfl⟩⟩
 ·have hz2 : len ≤ zs.length := by split at hz <;> omega
  have hlen : (zs.take len).length = len := by simp; omega
  refine ⟨⟨some a, len, cap⟩, zs.take len, rfl, ⟨by rw [List.length_map, hlen]; simp, ?_⟩⟩
  rcases Nat.eq_zero_or_pos len with h0 | h0
  ·exact .inl h0
  ·right
   obtain ⟨ab, ao, spot⟩ := a
   have hspot : spot = none := by simpa [Addr.add] using World.cell?_spot (hcell 0 (by omega))
   subst hspot
   have hc0 := hcell 0 (by omega)
   rw [fa_add, fa_mk] at hc0
   unfold World.cell? at hc0
   dsimp only at hc0
   split at hc0
   ·rename_i cs ty fr hb
    refine ⟨ab, ao, cs, ty, fr, rfl, hb, fun i hi => ?_⟩
    rw [List.length_map, hlen] at hi
    have hci := hcell i (by omega)
    rw [fa_add, fa_mk] at hci
    unfold World.cell? at hci
    dsimp only at hci
    rw [hb] at hci
    dsimp only at hci
    rw [List.getElem?_map, List.getElem?_take, if_pos hi]
    have : zs[i]? = some (zs.getD i 0) := by
     have : i < zs.length := by omega
     simp [List.getD_eq_getElem?_getD, this]
    rw [this, Option.map_some]
    exact hci
   ·cases hc0
theorem list_of {α : Type} {Q : Nat → α → Prop} : ∀ n : Nat, (∀ i, i < n → ∃ a, Q i a) → ∃ l : List α, l.length = n ∧ ∀ i a, l[i]? = some a → Q i a
 | 0, _ => ⟨[], rfl, by simp⟩
 | n + 1, h => by
  obtain ⟨l, hl, hq⟩ := list_of n fun i hi => h i (by omega)
  obtain ⟨a, ha⟩ := h n (by omega)
  refine ⟨l ++ [a], by simp [hl], fun i b hb => ?_⟩
  rcases Nat.lt_or_ge i n with c | c
  ·rw [List.getElem?_append_left (by omega)] at hb; exact hq i b hb
  ·have hlt := (List.getElem?_eq_some_iff.1 hb).1
   simp at hlt
   have : i = l.length := by omega
   subst this
   rw [List.getElem?_append_right (Nat.le_refl _), Nat.sub_self] at hb
   injection hb with hb
   subst hb
   rw [hl]; exact ha
end
end Go.Gl
