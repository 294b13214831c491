/- Inputs opened: fields of structs, slices in them. -/
import Derived.Test.YtdplphebjhfliaaGreatGsRow
import Derived.Test.YtdplphebjhfliaaGreatGsClass
set_option linter.unusedSimpArgs false
set_option linter.unusedVariables false
namespace Go.Gl
open Go
section
variable {H : Type} {enc : TypeId × Value → H} {P : Program} {W : World} {base : Nat} {sp : Nat → Bool} {held : Bool}
theorem open_fld {fs : Array Field} {xs : List (DataW H × List MemPlace)} {n : Nat} {cs : List Value} (hlen : xs.length = fs.size) (hf : ∀ (i : Nat) (f : Field), fs[i]? = some f → DataW.trod enc P W base sp held n f.type ((cs.drop f.offset).take (P.cellsOf f.type)) = xs[i]?)
  {i o : Nat} {t : TypeId} (h : (fs[i]?).map (fun f => (f.type, f.offset)) = some (t, o)) : ∃ y, DataW.trod enc P W base sp held n t ((cs.drop o).take (P.cellsOf t)) = some y := by
 cases hfi : fs[i]? with
 | none => rw [hfi] at h; cases h
 | some f =>
  rw [hfi] at h
  injection h with h
  injection h with h1 h2
  have hi : i < fs.size := (Array.getElem?_eq_some_iff.1 hfi).1
  have := hf i f hfi
  rw [List.getElem?_eq_getElem (by omega)] at this
  exact ⟨_, by rw [← h1, ← h2]; exact this⟩
theorem cell_at {cs : List Value} {o : Nat} {v : Value} (h : (cs.drop o).take 1 = [v]) : cs[o]? = some v := by
 have : ((cs.drop o).take 1)[0]? = some v := by rw [h]; rfl
 rw [List.getElem?_take, if_pos (by omega), List.getElem?_drop] at this
 simpa using this
theorem open_ifldw {fs : Array Field} {xs : List (DataW H × List MemPlace)} {n : Nat} {cs : List Value} (hlen : xs.length = fs.size) (hf : ∀ (i : Nat) (f : Field), fs[i]? = some f → DataW.trod enc P W base sp held n f.type ((cs.drop f.offset).take (P.cellsOf f.type)) = xs[i]?)
  {i o : Nat} {t : TypeId} {k : IntKind} (ht : P.underlying t = some (.int k)) (hc : P.cellsOf t = 1) (h : (fs[i]?).map (fun f => (f.type, f.offset)) = some (t, o)) : ∃ m : Int, cs[o]? = some (.int k m) ∧ (Lit.int k m).wf = true := by
 obtain ⟨y, hy⟩ := open_fld hlen hf h
 rw [hc] at hy
 obtain ⟨m, hm, _, hw⟩ := DataW.trod_int ht hy
 exact ⟨m, cell_at hm, hw⟩
theorem i64_wf {a : Int} (h : (Lit.int .i64 a).wf = true) : -9223372036854775808 ≤ a ∧ a < 9223372036854775808 := by
 simp [Lit.wf, IntKind.min, IntKind.max, IntKind.signed, IntKind.bits] at h
 omega
end
end Go.Gl
