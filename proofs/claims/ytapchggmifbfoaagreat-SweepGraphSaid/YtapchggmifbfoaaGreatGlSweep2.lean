/- Sweeps of graphs: what laws share. -/
import Derived.Test.YtapchggmifbfoaaGreatGlSweep
import Derived.Test.YtapchggmifbfoaaGreatGlTl19
set_option linter.unusedSimpArgs false
set_option linter.unusedVariables false
namespace Go.Proofs.YtapchggmifbfoaaGreat
open Go Go.Gl
variable {ρ0 ρ : FR} {L L' : List Asn} {Post : Value → List Asn → Prop} {T : Tree}

theorem Gr.OK.dead {S : Spc} {hs : List Hd} {l : List Int} (H : Gr.OK S hs l) : Sw.dead S l = [] := by
  unfold Sw.dead
  rw [List.filter_eq_nil_iff]
  intro a ha
  simp [H.each.mem_iff.mp ha]
theorem Sw.frees_nil {S : Spc} : Sw.frees S [] = S := rfl

theorem law_awake19 : Gl.Spec ρ Tryz.prog 34 [] [] RB fun r M => r = true ∧ M = [] := by
  refine Spec.of (fun Q w h => F.gloaminglaw19.awake.calls h) fun R => ?_
  unfold F.gloaminglaw19.awake
  try simp only [List.cons_append, List.nil_append]
  refine en_nw fun b1 => ?_
  refine Rd.bk (n := 3) (m := 1) (vs := ([1, 2, 3] : List Int).map fun x => .int .u8 x) rfl tk fun ρ1 hle1 ro => ?_
  refine en_call (g_graph ⟨some ⟨b1, 0, none⟩, 3, 3⟩ [1, 2, 3] ro (by decide) (by decide)) tks ?_
  rintro x' M ⟨p, q, rfl, rfl⟩
  try simp only [List.cons_append, List.nil_append]
  refine en_brf rfl ?_
  have hok := Gr.graph_ok (ns := [1, 2, 3]) (by decide)
  have h3 : (Gr.graph [1, 2, 3]).2.length = 3 := by kernel_rfl
  have h1 : (Sw.dead (Gr.graph [1, 2, 3]).1 ((Gr.graph [1, 2, 3]).2.drop 1)).length = 1 := by kernel_rfl
  have hd := hok.dead
  generalize (Gr.graph [1, 2, 3]).2 = l at *
  generalize (Gr.graph [1, 2, 3]).1 = G at *
  refine Tr.sl_len (s := q) (m := 1) (xs := l.map i64) tk fun hq hc => ?_
  have hq : q.n = l.length := by simpa using hq.symm
  refine en_brf (by rw [hq, h3]; rfl) ?_
  refine Tr.keepSL (s := q) tk fun ρ2 hle2 hro => ?_
  refine en_call (sweep_sweep p G Gr.cs hok.hw (A := []) q l (Rd.ro hro) (by omega)) tks ?_
  rintro x' M ⟨rfl, rfl⟩
  try simp only [List.cons_append, List.nil_append]
  rw [hd]
  unfold Sw.sweep
  rw [hd, Sw.frees_nil]
  refine en_brt rfl ?_
  refine en_slc (by decide) (by omega) (by omega) ?_
  have hsub := hro.drop (l := 1) (by omega) hc
  rw [Nat.mul_one, ← List.map_drop] at hsub
  refine en_call (sweep_dead p G Gr.cs hok.hw (A := []) _ (l.drop 1) (Rd.ro hsub) (by simp; omega)) tks ?_
  rintro r M rfl
  try simp only [List.cons_append, List.nil_append]
  refine Tr.nlen (s := r) tk fun hr => ?_
  rw [hr, h1]
  exact en_rets (x := true) rfl ⟨rfl, rfl⟩ tks ens

/-- what there is in page 0 -/
theorem find_zero {S : Spc} (hw : Wf S) : Sp.find S 0 = none := by
  have h0 := (hw.res 0).mpr rfl
  have hl := hw.len
  have hp := hw.pos
  have := Sp.find_other (S := S) (n := 0) (by omega) (fun c l h => by rw [h0] at h; cases h)
  rw [show Sp.find S 0 = Sp.find S ((0 : Nat) : Int) from rfl, this, Sp.own_no]
  · rfl
  · intro j k hj hc
    have : j = 0 := by omega
    subst this
    rw [h0] at hj; cases hj

theorem used_eq {S S' : Spc} (hw : Wf S) (hw' : Wf S') (h : ∀ n w : Nat, Sp.find S n = some (n, w) ↔ Sp.find S' n = some (n, w)) : (Sp.each S).map (Sp.wordsAt S) = (Sp.each S').map (Sp.wordsAt S') := by
  rw [each_eq hw hw' h]
  refine List.map_congr_left fun a ha => ?_
  obtain ⟨n, w, rfl, hf⟩ := (mem_each hw').mp ha
  unfold Sp.wordsAt
  rw [hf, (h n w).mpr hf]


end Go.Proofs.YtapchggmifbfoaaGreat
