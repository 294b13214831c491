/- ProcTimes: for every input the law returns true, and the input reads as it did. No condition. -/
import Derived.Test.YtpefngbfgjfcgaaGreatRows
import Derived.Test.YtpefngbfgjfcgaaGreatGsLPrTimes
import Derived.Test.YtpefngbfgjfcgaaGreatGsRow
import Derived.Test.YtpefngbfgjfcgaaGreatGsRowM
import Derived.Test.YtpefngbfgjfcgaaGreatGsRowF
import Derived.Test.YtpefngbfgjfcgaaGreatGsRowK
import Derived.OpenShut
set_option linter.unusedSimpArgs false
set_option linter.unusedVariables false
namespace Go.Proofs.YtpefngbfgjfcgaaGreat.procTimes
open Go.ChangeShapes Go.WideShapes Go.ChangeAt Go.RowKit
theorem own : ownKnob Tryz.prog.godebug = none := by kernel_rfl
theorem laidOut : laidOutB Tryz.prog = true := by kernel_rfl
theorem walk (w : World) (a0 : Int) (a1 : Int) (s2 : Gl.Slc) (l2 : List Int) (a3 : Int) (w0 : (Lit.int .u8 a0).wf = true) (w1 : (Lit.int .u8 a1).wf = true) (w3 : (Lit.int .u8 a3).wf = true) (r2 : Gl.RoS (Gl.FR.all w) s2 1 (l2.map fun x => .int .u8 x)) (b2 : ∀ x ∈ l2, (Lit.int .u8 x).wf = true) (n2 : l2.length < 2 ^ 63) :
  Calls Tryz.prog 7 #[.int .u8 a0, .int .u8 a1, .slice s2.a s2.n s2.c, .int .u8 a3] w fun e w' => e = .returned (.bool true) ∧ Below w.heap.size w w' :=
 Gl.law_row (law_proctimes a0 a1 s2 l2 a3 (Gl.u8_wf w0) (Gl.u8_wf w1) (Gl.u8_wf w3) r2 b2 n2)
set_option maxRecDepth 100000 in
theorem lifted (os : Os) (started : os.Started) (H : Type) (enc : TypeId × Value → H) :
  ReturnsInHanded {} Tryz.checked os 7 .any (Rows.procTimesSpec.pre6 enc Tryz.prog Tryz.f7 Rows.procTimesRow.domain false) (Rows.procTimesSpec.post enc Tryz.prog Tryz.f7 false true false false) := by
 refine returnsInHanded_of_change (C := Tryz.checked) own started (by kernel_rfl) Tryz.func7
  (ChangeSpec.witness6 (enc := enc) (C := Tryz.checked) false ⟨#[], #[.int .u8 0, .int .u8 0, .slice none 0 0, .int .u8 0], []⟩ 8 (by kernel_rfl) (by kernel_rfl) (by kernel_rfl) (by kernel_rfl)) ?_
 intro W base args ds gs before hval0 hW hcnd _
 have hval : ∀ (j : Nat) t v, Tryz.f7.params[j]? = some t → args[j]? = some v → Value.okWide Tryz.prog W .any base t v := hval0
 have hW' := hW
 obtain ⟨p, q, hA0, hV, rfl, hfz, hnd⟩ := hW
 have hA : DataW.TrodAll enc Tryz.prog W 0 (fun _ => true) true Tryz.f7.params.toList args.toList ds p := hA0
 rw [Tryz.params7] at hA hval
 obtain ⟨v0, vs0, d0, ds0, p0, q0, hargs, rfl, rfl, h0, r0⟩ := trodAll_cons hA
 obtain ⟨v1, vs1, d1, ds1, p1, q1, rfl, rfl, rfl, h1, r1⟩ := trodAll_cons r0
 obtain ⟨v2, vs2, d2, ds2, p2, q2, rfl, rfl, rfl, h2, r2⟩ := trodAll_cons r1
 obtain ⟨v3, vs3, d3, ds3, p3, q3, rfl, rfl, rfl, h3, r3⟩ := trodAll_cons r2
 obtain ⟨rfl, rfl, rfl⟩ := trodAll_nil r3
 obtain rfl : args = #[v0, v1, v2, v3] := by cases args; simp_all
 obtain ⟨rfl, rfl⟩ := trodVars_none hV
 obtain ⟨a0, rfl, rfl, rfl, w0⟩ := open_int Tryz.underlying5 (hval 0 5 v0 rfl rfl) h0
 obtain ⟨a1, rfl, rfl, rfl, w1⟩ := open_int Tryz.underlying5 (hval 1 5 v1 rfl rfl) h1
 have hk2 : DataW.Trod enc Tryz.prog W 0 (fun _ => true) true 22 v2 d2 p2 := h2
 obtain ⟨s2, l2, rfl, ro2, bo2, no2⟩ := Gl.open_nums Tryz.underlying22 Tryz.underlying5 (by kernel_rfl) (hval 2 22 v2 rfl rfl) h2
 obtain ⟨a3, rfl, rfl, rfl, w3⟩ := open_int Tryz.underlying5 (hval 3 5 v3 rfl rfl) h3
 clear hA0 hval0
 have hlt := hW'.lt
 simp only [List.append_nil] at hW'
 refine (walk W a0 a1 s2 l2 a3 w0 w1 w3 ro2 bo2 no2).mono fun e W' ⟨he, hg⟩ => ?_
 subst he
 exact ⟨_, rfl, ⟨_, _, _, [], _, [], hW', trodAll_cons_mk (shut_bool Tryz.underlying4 _) trodAll_mk0, (trodAll_cons_mk (shut_int Tryz.underlying5 w0) (trodAll_cons_mk (shut_int Tryz.underlying5 w1) (trodAll_cons_mk (Below.trod laidOut (by kernel_rfl) (of_decide_eq_true (by kernel_rfl)) hk2 hg (fun x hx => hlt x (by simp [hx]))) (trodAll_cons_mk (shut_int Tryz.underlying5 w3) trodAll_mk0)))), rfl, hg.frame _, fun h => by cases h⟩⟩
theorem closed : joinedFacts Tryz.pinned.checked.prog 7 Tryz.f7 Rows.procTimesSpec Rows.procTimesRow = true := by
 unfold joinedFacts
 rw [row_make, row_lifts, row_may]
 kernel_rfl
theorem over : Rows.procTimesRow.holds Tryz.pinned (OpenSpec.ofChange Rows.procTimesSpec) :=
 OpenClaim.holds_of_wide 7 Tryz.f7 rfl rfl rfl rfl rfl rfl rfl ⟨rfl, rfl, rfl, rfl, rfl⟩ rfl rfl rfl rfl rfl (by kernel_rfl) Tryz.func7 closed
  (of_decide_eq_true (by kernel_rfl)) (by unfold Func.isWrapper; first | (rw [if_pos (by decide +kernel)]; kernel_rfl) | (rw [if_neg (by decide +kernel)]; exact ⟨rfl, rfl⟩))
  (fun os started H enc _ => lifted os started H enc)
theorem proved : Rows.ProcTimesSaid :=
 over
#print axioms proved
end Go.Proofs.YtpefngbfgjfcgaaGreat.procTimes
