/- GcConfigs: for every input the law returns true, and the input reads as it did. No condition. -/
import Derived.Test.YtdplphebjhfliaaGreatRows
import Derived.Test.YtdplphebjhfliaaGreatGsOpenC
import Derived.Test.YtdplphebjhfliaaGreatGsLGcConfigs
import Derived.Test.YtdplphebjhfliaaGreatGsRow
import Derived.Test.YtdplphebjhfliaaGreatGsRowM
import Derived.Test.YtdplphebjhfliaaGreatGsRowF
import Derived.Test.YtdplphebjhfliaaGreatGsRowK
import Derived.OpenShut
set_option linter.unusedSimpArgs false
set_option linter.unusedVariables false
namespace Go.Proofs.YtdplphebjhfliaaGreat.gcConfigs
open Go.ChangeShapes Go.WideShapes Go.ChangeAt Go.RowKit
theorem own : ownKnob Tryz.prog.godebug = none := by kernel_rfl
theorem laidOut : laidOutB Tryz.prog = true := by kernel_rfl
theorem walk (w : World) (x0 y0 z0 : Int) (cx0 : x0 < 9223372036854775808) (cy0 : y0 < 9223372036854775808) (cz0 : z0 < 9223372036854775808) :
  Calls Tryz.prog 3 #[.agg #[i64 x0, i64 y0, i64 z0]] w fun e w' => e = .returned (.bool true) ∧ Below w.heap.size w w' :=
 Gl.law_row (law_gcconfigs x0 y0 z0 cx0 cy0 cz0)
set_option maxRecDepth 100000 in
theorem lifted (os : Os) (started : os.Started) (H : Type) (enc : TypeId × Value → H) :
  ReturnsInHanded {} Tryz.checked os 3 .any (Rows.gcConfigsSpec.pre6 enc Tryz.prog Tryz.f3 Rows.gcConfigsRow.domain false) (Rows.gcConfigsSpec.post enc Tryz.prog Tryz.f3 false true false false) := by
 refine returnsInHanded_of_change (C := Tryz.checked) own started (by kernel_rfl) Tryz.func3
  (ChangeSpec.witness6 (enc := enc) (C := Tryz.checked) false ⟨#[], #[.agg #[.int .i64 0, .int .i64 0, .int .i64 0]], []⟩ 8 (by kernel_rfl) (by kernel_rfl) (by kernel_rfl) (by kernel_rfl)) ?_
 intro W base args ds gs before hval0 hW hcnd _
 have hval : ∀ (j : Nat) t v, Tryz.f3.params[j]? = some t → args[j]? = some v → Value.okWide Tryz.prog W .any base t v := hval0
 have hW' := hW
 obtain ⟨p, q, hA0, hV, rfl, hfz, hnd⟩ := hW
 have hA : DataW.TrodAll enc Tryz.prog W 0 (fun _ => true) true Tryz.f3.params.toList args.toList ds p := hA0
 rw [Tryz.params3] at hA hval
 obtain ⟨v0, vs0, d0, ds0, p0, q0, hargs, rfl, rfl, h0, r0⟩ := trodAll_cons hA
 obtain ⟨rfl, rfl, rfl⟩ := trodAll_nil r0
 obtain rfl : args = #[v0] := by cases args; simp_all
 obtain ⟨rfl, rfl⟩ := trodVars_none hV
 have hk0 : DataW.Trod enc Tryz.prog W 0 (fun _ => true) true 23 v0 d0 p0 := h0
 obtain ⟨x0, y0, z0, rfl, cx0, cy0, cz0⟩ := open_cfg (hval 0 23 v0 rfl rfl) h0
 clear hA0 hval0
 have hlt := hW'.lt
 simp only [List.append_nil] at hW'
 refine (walk W x0 y0 z0 cx0 cy0 cz0).mono fun e W' ⟨he, hg⟩ => ?_
 subst he
 exact ⟨_, rfl, ⟨_, _, _, [], _, [], hW', trodAll_cons_mk (shut_bool Tryz.underlying4 _) trodAll_mk0, (trodAll_cons_mk (Below.trod laidOut (by kernel_rfl) (of_decide_eq_true (by kernel_rfl)) hk0 hg (fun x hx => hlt x (by simp [hx]))) trodAll_mk0), rfl, hg.frame _, fun h => by cases h⟩⟩
theorem closed : joinedFacts Tryz.pinned.checked.prog 3 Tryz.f3 Rows.gcConfigsSpec Rows.gcConfigsRow = true := by
 unfold joinedFacts
 rw [row_make, row_lifts, row_may]
 kernel_rfl
theorem over : Rows.gcConfigsRow.holds Tryz.pinned (OpenSpec.ofChange Rows.gcConfigsSpec) :=
 OpenClaim.holds_of_wide 3 Tryz.f3 rfl rfl rfl rfl rfl rfl rfl ⟨rfl, rfl, rfl, rfl, rfl⟩ rfl rfl rfl rfl rfl (by kernel_rfl) Tryz.func3 closed
  (of_decide_eq_true (by kernel_rfl)) (by unfold Func.isWrapper; first | (rw [if_pos (by decide +kernel)]; kernel_rfl) | (rw [if_neg (by decide +kernel)]; exact ⟨rfl, rfl⟩))
  (fun os started H enc _ => lifted os started H enc)
theorem proved : Rows.GcConfigsSaid :=
 over
#print axioms proved
end Go.Proofs.YtdplphebjhfliaaGreat.gcConfigs
