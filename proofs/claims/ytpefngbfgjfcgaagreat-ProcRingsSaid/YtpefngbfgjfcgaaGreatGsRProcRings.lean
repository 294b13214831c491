/- ProcRings: for every input the law returns true, and the input reads as it did. No condition. -/
import Derived.Test.YtpefngbfgjfcgaaGreatRows
import Derived.Test.YtpefngbfgjfcgaaGreatGsLPrRings
import Derived.Test.YtpefngbfgjfcgaaGreatGsRow
import Derived.Test.YtpefngbfgjfcgaaGreatGsRowM
import Derived.Test.YtpefngbfgjfcgaaGreatGsRowF
import Derived.Test.YtpefngbfgjfcgaaGreatGsRowK
import Derived.OpenShut
set_option linter.unusedSimpArgs false
set_option linter.unusedVariables false
namespace Go.Proofs.YtpefngbfgjfcgaaGreat.procRings
open Go.ChangeShapes Go.WideShapes Go.ChangeAt Go.RowKit
theorem own : ownKnob Tryz.prog.godebug = none := by kernel_rfl
theorem laidOut : laidOutB Tryz.prog = true := by kernel_rfl
theorem walk (w : World) (a0 : Int) (s1 : Gl.Slc) (l1 : List Int) (a2 : Int) (w0 : (Lit.int .u8 a0).wf = true) (w2 : (Lit.int .u8 a2).wf = true) (r1 : Gl.RoS (Gl.FR.all w) s1 1 (l1.map fun x => .int .u8 x)) (b1 : ∀ x ∈ l1, (Lit.int .u8 x).wf = true) (n1 : l1.length < 2 ^ 63) :
  Calls Tryz.prog 10 #[.int .u8 a0, .slice s1.a s1.n s1.c, .int .u8 a2] w fun e w' => e = .returned (.bool true) ∧ Below w.heap.size w w' :=
 Gl.law_row (law_procrings a0 s1 l1 a2 (Gl.u8_wf w0) (Gl.u8_wf w2) r1 b1 n1)
set_option maxRecDepth 100000 in
theorem lifted (os : Os) (started : os.Started) (H : Type) (enc : TypeId × Value → H) :
  ReturnsInHanded {} Tryz.checked os 10 .any (Rows.procRingsSpec.pre6 enc Tryz.prog Tryz.f10 Rows.procRingsRow.domain false) (Rows.procRingsSpec.post enc Tryz.prog Tryz.f10 false true false false) := by
 refine returnsInHanded_of_change (C := Tryz.checked) own started (by kernel_rfl) Tryz.func10
  (ChangeSpec.witness6 (enc := enc) (C := Tryz.checked) false ⟨#[], #[.int .u8 0, .slice none 0 0, .int .u8 0], []⟩ 8 (by kernel_rfl) (by kernel_rfl) (by kernel_rfl) (by kernel_rfl)) ?_
 intro W base args ds gs before hval0 hW hcnd _
 have hval : ∀ (j : Nat) t v, Tryz.f10.params[j]? = some t → args[j]? = some v → Value.okWide Tryz.prog W .any base t v := hval0
 have hW' := hW
 obtain ⟨p, q, hA0, hV, rfl, hfz, hnd⟩ := hW
 have hA : DataW.TrodAll enc Tryz.prog W 0 (fun _ => true) true Tryz.f10.params.toList args.toList ds p := hA0
 rw [Tryz.params10] at hA hval
 obtain ⟨v0, vs0, d0, ds0, p0, q0, hargs, rfl, rfl, h0, r0⟩ := trodAll_cons hA
 obtain ⟨v1, vs1, d1, ds1, p1, q1, rfl, rfl, rfl, h1, r1⟩ := trodAll_cons r0
 obtain ⟨v2, vs2, d2, ds2, p2, q2, rfl, rfl, rfl, h2, r2⟩ := trodAll_cons r1
 obtain ⟨rfl, rfl, rfl⟩ := trodAll_nil r2
 obtain rfl : args = #[v0, v1, v2] := by cases args; simp_all
 obtain ⟨rfl, rfl⟩ := trodVars_none hV
 obtain ⟨a0, rfl, rfl, rfl, w0⟩ := open_int Tryz.underlying5 (hval 0 5 v0 rfl rfl) h0
 have hk1 : DataW.Trod enc Tryz.prog W 0 (fun _ => true) true 22 v1 d1 p1 := h1
 obtain ⟨s1, l1, rfl, ro1, bo1, no1⟩ := Gl.open_nums Tryz.underlying22 Tryz.underlying5 (by kernel_rfl) (hval 1 22 v1 rfl rfl) h1
 obtain ⟨a2, rfl, rfl, rfl, w2⟩ := open_int Tryz.underlying5 (hval 2 5 v2 rfl rfl) h2
 clear hA0 hval0
 have hlt := hW'.lt
 simp only [List.append_nil] at hW'
 refine (walk W a0 s1 l1 a2 w0 w2 ro1 bo1 no1).mono fun e W' ⟨he, hg⟩ => ?_
 subst he
 exact ⟨_, rfl, ⟨_, _, _, [], _, [], hW', trodAll_cons_mk (shut_bool Tryz.underlying4 _) trodAll_mk0, (trodAll_cons_mk (shut_int Tryz.underlying5 w0) (trodAll_cons_mk (Below.trod laidOut (by kernel_rfl) (of_decide_eq_true (by kernel_rfl)) hk1 hg (fun x hx => hlt x (by simp [hx]))) (trodAll_cons_mk (shut_int Tryz.underlying5 w2) trodAll_mk0))), rfl, hg.frame _, fun h => by cases h⟩⟩
theorem closed : joinedFacts Tryz.pinned.checked.prog 10 Tryz.f10 Rows.procRingsSpec Rows.procRingsRow = true := by
 unfold joinedFacts
 rw [row_make, row_lifts, row_may]
 kernel_rfl
theorem over : Rows.procRingsRow.holds Tryz.pinned (OpenSpec.ofChange Rows.procRingsSpec) :=
 OpenClaim.holds_of_wide 10 Tryz.f10 rfl rfl rfl rfl rfl rfl rfl ⟨rfl, rfl, rfl, rfl, rfl⟩ rfl rfl rfl rfl rfl (by kernel_rfl) Tryz.func10 closed
  (of_decide_eq_true (by kernel_rfl)) (by unfold Func.isWrapper; first | (rw [if_pos (by decide +kernel)]; kernel_rfl) | (rw [if_neg (by decide +kernel)]; exact ⟨rfl, rfl⟩))
  (fun os started H enc _ => lifted os started H enc)
theorem proved : Rows.ProcRingsSaid :=
 over
#print axioms proved
end Go.Proofs.YtpefngbfgjfcgaaGreat.procRings
