/- An input that is a config. -/
import Derived.Test.YtdplphebjhfliaaGreatGsOpen
import Derived.Test.YtdplphebjhfliaaGreatGsEz
set_option linter.unusedSimpArgs false
set_option linter.unusedVariables false
namespace Go.Proofs.YtdplphebjhfliaaGreat
open Go Go.Gl
set_option maxRecDepth 100000 in
theorem open_cfg {H : Type} {enc : TypeId × Value → H} {W : World} {b0 : Nat} {v : Value} {d : DataW H} {p : List MemPlace} (hval : Value.okWide Tryz.prog W .any b0 23 v) (h : DataW.Trod enc Tryz.prog W 0 (fun _ => true) true 23 v d p) :
  ∃ x y z : Int, v = .agg #[i64 x, i64 y, i64 z] ∧ x < 9223372036854775808 ∧ y < 9223372036854775808 ∧ z < 9223372036854775808 := by
 have c1 : Tryz.prog.cellsOf 3 = 1 := by kernel_rfl
 have c3 : Tryz.prog.cellsOf 23 = 3 := by kernel_rfl
 obtain ⟨cs, rfl, hcs⟩ := Go.WideShapes.okWide_struct Tryz.underlying23 hval
 obtain ⟨fuel, hf⟩ := h
 obtain ⟨ys, n, _, _, hlen, hsz, hf⟩ := DataW.trod_struct Tryz.underlying23 hf
 rw [c3] at hcs
 simp only [Value.cells] at hf
 obtain ⟨x, hx, wx⟩ := open_ifldw (i := 0) (o := 0) hsz hf Tryz.underlying3 c1 (by rfl)
 obtain ⟨y, hy, wy⟩ := open_ifldw (i := 1) (o := 1) hsz hf Tryz.underlying3 c1 (by rfl)
 obtain ⟨z, hz, wz⟩ := open_ifldw (i := 2) (o := 2) hsz hf Tryz.underlying3 c1 (by rfl)
 refine ⟨x, y, z, ?_, (i64_wf wx).2, (i64_wf wy).2, (i64_wf wz).2⟩
 congr 1
 apply Array.ext'
 refine List.ext_getElem? fun j => ?_
 have hl : cs.toList.length = 3 := by simpa using hcs
 match j with
 | 0 => exact hx
 | 1 => exact hy
 | 2 => exact hz
 | j + 3 => rw [List.getElem?_eq_none (by omega), List.getElem?_eq_none (by simp)]
end Go.Proofs.YtdplphebjhfliaaGreat
