/- ProcFinals: for every input the law returns true, and the input reads as it did. No condition. -/
import Derived.Test.YtpefngbfgjfcgaaGreatRows
import Derived.Test.YtpefngbfgjfcgaaGreatGsLPrFinals
import Derived.Test.YtpefngbfgjfcgaaGreatGsRow
import Derived.Test.YtpefngbfgjfcgaaGreatGsRowM
import Derived.Test.YtpefngbfgjfcgaaGreatGsRowF
import Derived.Test.YtpefngbfgjfcgaaGreatGsRowK
import Derived.OpenShut
set_option linter.unusedSimpArgs false
set_option linter.unusedVariables false
namespace Go.Proofs.YtpefngbfgjfcgaaGreat.procFinals
open Go.ChangeShapes Go.WideShapes Go.ChangeAt Go.RowKit
theorem own : ownKnob Tryz.prog.godebug = none := by kernel_rfl
theorem laidOut : laidOutB Tryz.prog = true := by kernel_rfl
theorem walk (w : World) (s0 : Gl.Slc) (l0 : List Int) (s1 : Gl.Slc) (l1 : List Int) (s2 : Gl.Slc) (l2 : List Int) (a3 : Int) (a4 : Int) (a5 : Int) (a6 : Bool) (w3 : (Lit.int .u8 a3).wf = true) (w4 : (Lit.int .u8 a4).wf = true) (w5 : (Lit.int .u8 a5).wf = true) (r0 : Gl.RoS (Gl.FR.all w) s0 1 (l0.map fun x => .int .u8 x)) (b0 : ∀ x ∈ l0, (Lit.int .u8 x).wf = true) (n0 : l0.length < 2 ^ 63) (r1 : Gl.RoS (Gl.FR.all w) s1 1 (l1.map fun x => .int .u8 x)) (b1 : ∀ x ∈ l1, (Lit.int .u8 x).wf = true) (n1 : l1.length < 2 ^ 63) (r2 : Gl.RoS (Gl.FR.all w) s2 1 (l2.map fun x => .int .u8 x)) (b2 : ∀ x ∈ l2, (Lit.int .u8 x).wf = true) (n2 : l2.length < 2 ^ 63) :
  Calls Tryz.prog 6 #[.slice s0.a s0.n s0.c, .slice s1.a s1.n s1.c, .slice s2.a s2.n s2.c, .int .u8 a3, .int .u8 a4, .int .u8 a5, .bool a6] w fun e w' => e = .returned (.bool true) ∧ Below w.heap.size w w' :=
 Gl.law_row (law_procfinals s0 l0 s1 l1 s2 l2 a3 a4 a5 a6 (Gl.u8_wf w3) (Gl.u8_wf w4) (Gl.u8_wf w5) r0 b0 n0 r1 b1 n1 r2 b2 n2)
set_option maxRecDepth 100000 in
theorem lifted (os : Os) (started : os.Started) (H : Type) (enc : TypeId × Value → H) :
  ReturnsInHanded {} Tryz.checked os 6 .any (Rows.procFinalsSpec.pre6 enc Tryz.prog Tryz.f6 Rows.procFinalsRow.domain false) (Rows.procFinalsSpec.post enc Tryz.prog Tryz.f6 false true false false) := by
 refine returnsInHanded_of_change (C := Tryz.checked) own started (by kernel_rfl) Tryz.func6
  (ChangeSpec.witness6 (enc := enc) (C := Tryz.checked) false ⟨#[], #[.slice none 0 0, .slice none 0 0, .slice none 0 0, .int .u8 0, .int .u8 0, .int .u8 0, .bool false], []⟩ 8 (by kernel_rfl) (by kernel_rfl) (by kernel_rfl) (by kernel_rfl)) ?_
 intro W base args ds gs before hval0 hW hcnd _
 have hval : ∀ (j : Nat) t v, Tryz.f6.params[j]? = some t → args[j]? = some v → Value.okWide Tryz.prog W .any base t v := hval0
 have hW' := hW
 obtain ⟨p, q, hA0, hV, rfl, hfz, hnd⟩ := hW
 have hA : DataW.TrodAll enc Tryz.prog W 0 (fun _ => true) true Tryz.f6.params.toList args.toList ds p := hA0
 rw [Tryz.params6] at hA hval
 obtain ⟨v0, vs0, d0, ds0, p0, q0, hargs, rfl, rfl, h0, r0⟩ := trodAll_cons hA
 obtain ⟨v1, vs1, d1, ds1, p1, q1, rfl, rfl, rfl, h1, r1⟩ := trodAll_cons r0
 obtain ⟨v2, vs2, d2, ds2, p2, q2, rfl, rfl, rfl, h2, r2⟩ := trodAll_cons r1
 obtain ⟨v3, vs3, d3, ds3, p3, q3, rfl, rfl, rfl, h3, r3⟩ := trodAll_cons r2
 obtain ⟨v4, vs4, d4, ds4, p4, q4, rfl, rfl, rfl, h4, r4⟩ := trodAll_cons r3
 obtain ⟨v5, vs5, d5, ds5, p5, q5, rfl, rfl, rfl, h5, r5⟩ := trodAll_cons r4
 obtain ⟨v6, vs6, d6, ds6, p6, q6, rfl, rfl, rfl, h6, r6⟩ := trodAll_cons r5
 obtain ⟨rfl, rfl, rfl⟩ := trodAll_nil r6
 obtain rfl : args = #[v0, v1, v2, v3, v4, v5, v6] := by cases args; simp_all
 obtain ⟨rfl, rfl⟩ := trodVars_none hV
 have hk0 : DataW.Trod enc Tryz.prog W 0 (fun _ => true) true 22 v0 d0 p0 := h0
 obtain ⟨s0, l0, rfl, ro0, bo0, no0⟩ := Gl.open_nums Tryz.underlying22 Tryz.underlying5 (by kernel_rfl) (hval 0 22 v0 rfl rfl) h0
 have hk1 : DataW.Trod enc Tryz.prog W 0 (fun _ => true) true 22 v1 d1 p1 := h1
 obtain ⟨s1, l1, rfl, ro1, bo1, no1⟩ := Gl.open_nums Tryz.underlying22 Tryz.underlying5 (by kernel_rfl) (hval 1 22 v1 rfl rfl) h1
 have hk2 : DataW.Trod enc Tryz.prog W 0 (fun _ => true) true 22 v2 d2 p2 := h2
 obtain ⟨s2, l2, rfl, ro2, bo2, no2⟩ := Gl.open_nums Tryz.underlying22 Tryz.underlying5 (by kernel_rfl) (hval 2 22 v2 rfl rfl) h2
 obtain ⟨a3, rfl, rfl, rfl, w3⟩ := open_int Tryz.underlying5 (hval 3 5 v3 rfl rfl) h3
 obtain ⟨a4, rfl, rfl, rfl, w4⟩ := open_int Tryz.underlying5 (hval 4 5 v4 rfl rfl) h4
 obtain ⟨a5, rfl, rfl, rfl, w5⟩ := open_int Tryz.underlying5 (hval 5 5 v5 rfl rfl) h5
 obtain ⟨a6, rfl, rfl, rfl⟩ := open_bool Tryz.underlying4 (hval 6 4 v6 rfl rfl) h6
 clear hA0 hval0
 have hlt := hW'.lt
 simp only [List.append_nil] at hW'
 refine (walk W s0 l0 s1 l1 s2 l2 a3 a4 a5 a6 w3 w4 w5 ro0 bo0 no0 ro1 bo1 no1 ro2 bo2 no2).mono fun e W' ⟨he, hg⟩ => ?_
 subst he
 exact ⟨_, rfl, ⟨_, _, _, [], _, [], hW', trodAll_cons_mk (shut_bool Tryz.underlying4 _) trodAll_mk0, (trodAll_cons_mk (Below.trod laidOut (by kernel_rfl) (of_decide_eq_true (by kernel_rfl)) hk0 hg (fun x hx => hlt x (by simp [hx]))) (trodAll_cons_mk (Below.trod laidOut (by kernel_rfl) (of_decide_eq_true (by kernel_rfl)) hk1 hg (fun x hx => hlt x (by simp [hx]))) (trodAll_cons_mk (Below.trod laidOut (by kernel_rfl) (of_decide_eq_true (by kernel_rfl)) hk2 hg (fun x hx => hlt x (by simp [hx]))) (trodAll_cons_mk (shut_int Tryz.underlying5 w3) (trodAll_cons_mk (shut_int Tryz.underlying5 w4) (trodAll_cons_mk (shut_int Tryz.underlying5 w5) (trodAll_cons_mk (shut_bool Tryz.underlying4 _) trodAll_mk0))))))), rfl, hg.frame _, fun h => by cases h⟩⟩
theorem closed : joinedFacts Tryz.pinned.checked.prog 6 Tryz.f6 Rows.procFinalsSpec Rows.procFinalsRow = true := by
 unfold joinedFacts
 rw [row_make, row_lifts, row_may]
 kernel_rfl
theorem over : Rows.procFinalsRow.holds Tryz.pinned (OpenSpec.ofChange Rows.procFinalsSpec) :=
 OpenClaim.holds_of_wide 6 Tryz.f6 rfl rfl rfl rfl rfl rfl rfl ⟨rfl, rfl, rfl, rfl, rfl⟩ rfl rfl rfl rfl rfl (by kernel_rfl) Tryz.func6 closed
  (of_decide_eq_true (by kernel_rfl)) (by unfold Func.isWrapper; first | (rw [if_pos (by decide +kernel)]; kernel_rfl) | (rw [if_neg (by decide +kernel)]; exact ⟨rfl, rfl⟩))
  (fun os started H enc _ => lifted os started H enc)
theorem proved : Rows.ProcFinalsSaid :=
 over
#print axioms proved
end Go.Proofs.YtpefngbfgjfcgaaGreat.procFinals
