/- RtCounts: for every input the law returns true, and the input reads as it did. No condition. -/
import Derived.Test.YtkljcopnaodfgaaGreatRows
import Derived.Test.YtkljcopnaodfgaaGreatGsLRtCounts
import Derived.Test.YtkljcopnaodfgaaGreatGsRow
import Derived.Test.YtkljcopnaodfgaaGreatGsRowM
import Derived.Test.YtkljcopnaodfgaaGreatGsRowF
import Derived.Test.YtkljcopnaodfgaaGreatGsRowK
import Derived.OpenShut
set_option linter.unusedSimpArgs false
set_option linter.unusedVariables false
namespace Go.Proofs.YtkljcopnaodfgaaGreat.rtCounts
open Go.ChangeShapes Go.WideShapes Go.ChangeAt Go.RowKit
theorem own : ownKnob Tryz.prog.godebug = none := by kernel_rfl
theorem laidOut : laidOutB Tryz.prog = true := by kernel_rfl
theorem walk (w : World) (s0 : Gl.Slc) (l0 : List Int) (a1 : Int) (w1 : (Lit.int .i64 a1).wf = true) (r0 : Gl.RoS (Gl.FR.all w) s0 1 (l0.map fun x => .int .u8 x)) (b0 : ∀ x ∈ l0, (Lit.int .u8 x).wf = true) (n0 : l0.length < 2 ^ 63) :
  Calls Tryz.prog 12 #[.slice s0.a s0.n s0.c, .int .i64 a1] w fun e w' => e = .returned (.bool true) ∧ Below w.heap.size w w' :=
 Gl.law_row (law_rtcounts s0 l0 a1  r0 b0 n0)
set_option maxRecDepth 100000 in
theorem lifted (os : Os) (started : os.Started) (H : Type) (enc : TypeId × Value → H) :
  ReturnsInHanded {} Tryz.checked os 12 .any (Rows.rtCountsSpec.pre6 enc Tryz.prog Tryz.f12 Rows.rtCountsRow.domain false) (Rows.rtCountsSpec.post enc Tryz.prog Tryz.f12 false true false false) := by
 refine returnsInHanded_of_change (C := Tryz.checked) own started (by kernel_rfl) Tryz.func12
  (ChangeSpec.witness6 (enc := enc) (C := Tryz.checked) false ⟨#[], #[.slice none 0 0, .int .i64 0], []⟩ 8 (by kernel_rfl) (by kernel_rfl) (by kernel_rfl) (by kernel_rfl)) ?_
 intro W base args ds gs before hval0 hW hcnd _
 have hval : ∀ (j : Nat) t v, Tryz.f12.params[j]? = some t → args[j]? = some v → Value.okWide Tryz.prog W .any base t v := hval0
 have hW' := hW
 obtain ⟨p, q, hA0, hV, rfl, hfz, hnd⟩ := hW
 have hA : DataW.TrodAll enc Tryz.prog W 0 (fun _ => true) true Tryz.f12.params.toList args.toList ds p := hA0
 rw [Tryz.params12] at hA hval
 obtain ⟨v0, vs0, d0, ds0, p0, q0, hargs, rfl, rfl, h0, r0⟩ := trodAll_cons hA
 obtain ⟨v1, vs1, d1, ds1, p1, q1, rfl, rfl, rfl, h1, r1⟩ := trodAll_cons r0
 obtain ⟨rfl, rfl, rfl⟩ := trodAll_nil r1
 obtain rfl : args = #[v0, v1] := by cases args; simp_all
 obtain ⟨rfl, rfl⟩ := trodVars_none hV
 have hk0 : DataW.Trod enc Tryz.prog W 0 (fun _ => true) true 59 v0 d0 p0 := h0
 obtain ⟨s0, l0, rfl, ro0, bo0, no0⟩ := Gl.open_nums Tryz.underlying59 Tryz.underlying5 (by kernel_rfl) (hval 0 59 v0 rfl rfl) h0
 obtain ⟨a1, rfl, rfl, rfl, w1⟩ := open_int Tryz.underlying3 (hval 1 3 v1 rfl rfl) h1
 clear hA0 hval0
 have hlt := hW'.lt
 simp only [List.append_nil] at hW'
 refine (walk W s0 l0 a1 w1 ro0 bo0 no0).mono fun e W' ⟨he, hg⟩ => ?_
 subst he
 exact ⟨_, rfl, ⟨_, _, _, [], _, [], hW', trodAll_cons_mk (shut_bool Tryz.underlying4 _) trodAll_mk0, (trodAll_cons_mk (Below.trod laidOut (by kernel_rfl) (of_decide_eq_true (by kernel_rfl)) hk0 hg (fun x hx => hlt x (by simp [hx]))) (trodAll_cons_mk (shut_int Tryz.underlying3 w1) trodAll_mk0)), rfl, hg.frame _, fun h => by cases h⟩⟩
theorem and3 {a b c : Bool} (h : (a && (b && c)) = true) : a = true ∧ b = true ∧ c = true := by cases a <;> cases b <;> cases c <;> simp_all
theorem j1 : (Rows.rtCountsRow.inPlace == Tryz.pinned.checked.prog.inPlace 12 && (Rows.rtCountsRow.unfollowed == Tryz.pinned.checked.prog.unfollowed 12 && Rows.rtCountsRow.recurses == Tryz.pinned.checked.prog.recurses 12)) = true := by kernel_rfl
theorem j2 : (Rows.rtCountsRow.named == Tryz.pinned.checked.prog.varsNamed 12) = true := by kernel_rfl
theorem closed : joinedFacts Tryz.pinned.checked.prog 12 Tryz.f12 Rows.rtCountsSpec Rows.rtCountsRow = true := by
 unfold joinedFacts
 rw [row_make, row_lifts, row_may, (and3 j1).1, (and3 j1).2.1, (and3 j1).2.2, j2]
 kernel_rfl
theorem over : Rows.rtCountsRow.holds Tryz.pinned (OpenSpec.ofChange Rows.rtCountsSpec) :=
 OpenClaim.holds_of_wide 12 Tryz.f12 rfl rfl rfl rfl rfl rfl rfl ⟨rfl, rfl, rfl, rfl, rfl⟩ rfl rfl rfl rfl rfl (by kernel_rfl) Tryz.func12 closed
  (of_decide_eq_true (by kernel_rfl)) (by unfold Func.isWrapper; first | (rw [if_pos (by decide +kernel)]; kernel_rfl) | (rw [if_neg (by decide +kernel)]; exact ⟨rfl, rfl⟩))
  (fun os started H enc _ => lifted os started H enc)
theorem proved : Rows.RtCountsSaid :=
 over
#print axioms proved
end Go.Proofs.YtkljcopnaodfgaaGreat.rtCounts
